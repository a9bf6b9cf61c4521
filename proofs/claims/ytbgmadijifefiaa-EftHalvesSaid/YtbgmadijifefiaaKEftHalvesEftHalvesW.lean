/- The walk of the law EftHalves: the call returns true, and the world has at most new blocks. No condition. -/
import Derived.Test.YtbgmadijifefiaaKEftHalvesHalvesC
import Derived.Test.YtbgmadijifefiaaKEftHalvesEftSumsW
import Derived.Deep.LoopGhost
namespace Go.Proofs.Ytbgmadijifefiaa.EftHalvesW
open Go.RowKit Go.Proofs.YtbgmadijifefiaaW.PrintWords Go.Proofs.YtbgmadijifefiaaW.PrintMore Go.Proofs.Ytbgmadijifefiaa.Num Go.Proofs.Ytbgmadijifefiaa.PLib Go.Proofs.Ytbgmadijifefiaa.FW Go.Proofs.Ytbgmadijifefiaa.Eft Go.Proofs.Ytbgmadijifefiaa.EftLaw Go.Proofs.Ytbgmadijifefiaa.Awake Go.Proofs.Ytbgmadijifefiaa.SumsLaw Go.Proofs.Ytbgmadijifefiaa.HalvesC Go.Proofs.Ytbgmadijifefiaa.EftSumsW Fl
theorem on {W w w' : World} (h : Below W.heap.size W w) (k : Below w.heap.size w w') : Below W.heap.size W w' := h.trans (k.mono h.size)
structure On (W w : World) (b : Nat) (x y : Nat) : Prop where mk :: (below : Below W.heap.size W w) (lt : b < w.heap.size) (c0 : w.cell? ⟨b, 0, none⟩ = some (.int .u64 x)) (c1 : w.cell? ⟨b, 1, none⟩ = some (.int .u64 y))
theorem On.next {W w w' : World} {b x y : Nat} (h : On W w b x y) (k : Below w.heap.size w w') : On W w' b x y :=
  ⟨on h.below k, Nat.lt_of_lt_of_le h.lt k.size, by rw [k.cell (p := ⟨b, 0, none⟩) h.lt]; exact h.c0, by rw [k.cell (p := ⟨b, 1, none⟩) h.lt]; exact h.c1⟩
theorem On.at {W w : World} {b x y : Nat} (h : On W w b x y) {P : Nat → Prop} (hx : P x) (hy : P y) (k : Nat) (hk : k < 2) : ∃ z : Nat, w.cell? ⟨b, k, none⟩ = some (.int .u64 z) ∧ P z := by
  rcases (show k = 0 ∨ k = 1 by omega) with rfl | rfl
  · exact ⟨x, h.c0, hx⟩
  · exact ⟨y, h.c1, hy⟩
set_option maxHeartbeats 4000000 in
theorem walk (a0 a1 : Int) (W : World) (w0 : (Lit.int .u64 a0).wf = true) (w1 : (Lit.int .u64 a1).wf = true) :
    Calls Try.prog 10 #[.int .u64 a0, .int .u64 a1] W fun e w' => e = .returned (.bool true) ∧ Below W.heap.size W w' := by
  obtain ⟨a, rfl, ha⟩ := wf_u64 w0
  obtain ⟨b, rfl, hb⟩ := wf_u64 w1
  clear w0 w1
  obtain ⟨c1, hc1, hA⟩ := at480 a
  obtain ⟨c2, hc2, hB⟩ := at480 b
  obtain ⟨sa, hsa, _⟩ := sized (a : Nat)
  obtain ⟨sb, hsb, _⟩ := sized (b : Nat)
  have H1 := Lib.hid hc1
  have H2 := Lib.hid hc2
  have HA := Lib.hid hA
  have HB' := Lib.hid hB
  have HSA := Lib.hid hsa
  have HSB := Lib.hid hsb
  have HP := Lib.hid pow400
  clear hc1 hc2 hA hB hsa hsb
  go_enter Try.func10, Try.ntmps10
  go_wp2_with fail
  refine (awake_any _).mono ?_
  rintro e0 v0 ⟨rfl, hd⟩
  have HB := Lib.hid hd.below
  clear hd
  go_wp2_with fail
  refine (gnomonref19_AtMost.calls _ _ c1 _ HA.out).mono ?_
  rintro e1 v1 ⟨rfl, hd⟩
  have HB := Lib.hid (on HB.out hd.below)
  clear hd
  cases c1 with
  | false =>
    go_wp2_with fail
    go_ret
    exact ⟨rfl, HB.out⟩
  | true =>
  go_wp2_with fail
  refine (gnomonref19_AtMost.calls _ _ c2 _ HB'.out).mono ?_
  rintro e2 v2 ⟨rfl, hd⟩
  have HB := Lib.hid (on HB.out hd.below)
  clear hd
  cases c2 with
  | false =>
    go_wp2_with fail
    go_ret
    exact ⟨rfl, HB.out⟩
  | true =>
  by_cases h3 : sa < 2805742567851819008
  · go_wp2_with fail
    refine (gnomonref19_Size.calls _ _ _ HSA.out).mono ?_
    rintro e3 v3 ⟨rfl, hd⟩
    have HB := Lib.hid (on HB.out hd.below)
    clear hd
    go_wp2_with fail
    refine (gnomonref19_Pow.calls _ _ _ HP.out).mono ?_
    rintro e4 v4 ⟨rfl, hd⟩
    have HB := Lib.hid (on HB.out hd.below)
    clear hd
    go_wp2_with fail
    go_ret
    exact ⟨rfl, HB.out⟩
  have h3' : decide (sa < 2805742567851819008) = false := decide_eq_false h3
  have HG := Lib.hid (ge400 HSA.out h3)
  clear h3
  go_wp2_with fail
  refine (gnomonref19_Size.calls _ _ _ HSA.out).mono ?_
  rintro e3 v3 ⟨rfl, hd⟩
  have HB := Lib.hid (on HB.out hd.below)
  clear hd
  go_wp2_with fail
  refine (gnomonref19_Pow.calls _ _ _ HP.out).mono ?_
  rintro e4 v4 ⟨rfl, hd⟩
  have HB := Lib.hid (on HB.out hd.below)
  clear hd
  by_cases h4 : sb < 2805742567851819008
  · go_wp2_with fail
    refine (gnomonref19_Size.calls _ _ _ HSB.out).mono ?_
    rintro e5 v5 ⟨rfl, hd⟩
    have HB := Lib.hid (on HB.out hd.below)
    clear hd
    go_wp2_with fail
    refine (gnomonref19_Pow.calls _ _ _ HP.out).mono ?_
    rintro e6 v6 ⟨rfl, hd⟩
    have HB := Lib.hid (on HB.out hd.below)
    clear hd
    go_wp2_with fail
    go_ret
    exact ⟨rfl, HB.out⟩
  have h4' : decide (sb < 2805742567851819008) = false := decide_eq_false h4
  have HG' := Lib.hid (ge400 HSB.out h4)
  clear h4
  go_wp2_with fail
  refine (gnomonref19_Size.calls _ _ _ HSB.out).mono ?_
  rintro e5 v5 ⟨rfl, hd⟩
  have HB := Lib.hid (on HB.out hd.below)
  clear hd
  go_wp2_with fail
  refine (gnomonref19_Pow.calls _ _ _ HP.out).mono ?_
  rintro e6 v6 ⟨rfl, hd⟩
  have HB := Lib.hid (on HB.out hd.below)
  clear hd
  go_wp2_with fail
  refine (splitw_any _ _).mono ?_
  rintro e7 v7 ⟨h, l, rfl, hr, hh, hl, hd⟩
  rw [Int.toNat_natCast] at hr
  have HB := Lib.hid (on HB.out hd.below)
  have HHL := Lib.hid (half_facts hr HG.out (H1.out (by trivial)))
  have HLT := Lib.hid (And.intro hh hl)
  clear hd hr hh hl
  go_wp2_with fail
  refine (splitw_any _ _).mono ?_
  rintro e8 v8 ⟨i, k, rfl, hr, hh, hl, hd⟩
  rw [Int.toNat_natCast] at hr
  have HB := Lib.hid (on HB.out hd.below)
  have HIK := Lib.hid (half_facts hr HG'.out (H2.out (by trivial)))
  have HLT' := Lib.hid (And.intro hh hl)
  clear hd hr hh hl H1 H2 HA HB' HSA HSB HP HG HG' h3' h4'
  go_wp2_with fail
  have H0 : Hid (On W (v8.alloc (Obj.cells #[.int .u64 h, .int .u64 l] 22)) v8.heap.size h l) := Lib.hid ⟨HB.out.alloc HB.out.size _, by simp, by simp, by simp⟩
  clear HB
  go_loopg [53] 2 (fun g i wr => ∃ n : Nat, n ≤ 2 ∧ g = 2 - n ∧ i = .int .i64 n ∧ On W wr v8.heap.size h l)
  case atStart => exact ⟨0, by omega, rfl, rfl, H0.out⟩
  case round =>
    obtain ⟨n, hn, rfl, rfl, hO⟩ := hrel
    have HO := Lib.hid hO
    clear hO H0
    by_cases hlt : n < 2
    · have hltb : decide ((n : Int) < 2) = true := decide_eq_true (by omega)
      obtain ⟨x, hx, hX⟩ := HO.out.at (P := fun z => Half z ∧ z < 18446744073709551616) ⟨HHL.out.1, HLT.out.1⟩ ⟨HHL.out.2.1, HLT.out.2⟩ n hlt
      have HX := Lib.hid hX
      clear hX
      go_wp2_with fail
      have H1 : Hid (On W wr v8.heap.size h l ∧ On W (wr.alloc (Obj.cells #[.int .u64 i, .int .u64 k] 22)) wr.heap.size i k) := Lib.hid ⟨HO.out, HO.out.below.alloc HO.out.below.size _, by simp, by simp, by simp⟩
      clear hx
      go_loopg [61] 2 (fun g i' wi => ∃ m : Nat, m ≤ 2 ∧ g = 2 - m ∧ i' = .int .i64 m ∧ On W wi v8.heap.size h l ∧ On W wi wr.heap.size i k)
      case atStart => exact ⟨0, by omega, rfl, rfl, H1.out.1.next ((Below.refl _ _).alloc (Nat.le_refl _) _), H1.out.2⟩
      case round =>
        obtain ⟨m, hm, rfl, rfl, hO, hO2⟩ := hrel
        have HO1 := Lib.hid hO
        have HO2 := Lib.hid hO2
        clear hO hO2 H1
        by_cases hlt2 : m < 2
        · obtain ⟨y, hy, hY⟩ := HO2.out.at (P := fun z => Half z ∧ z < 18446744073709551616) ⟨HIK.out.1, HLT'.out.1⟩ ⟨HIK.out.2.1, HLT'.out.2⟩ m hlt2
          have HY := Lib.hid hY
          clear hY
          go_wp2_with fail
          refine (prodw_any _ _ _).mono ?_
          rintro e9 v9 ⟨p, q, rfl, hr, hp, hq, hd⟩
          rw [Int.toNat_natCast, Int.toNat_natCast] at hr
          have HO1 := Lib.hid (HO1.out.next hd.below)
          have HO2 := Lib.hid (HO2.out.next hd.below)
          obtain ⟨sx, hsx, zx⟩ := sized (x : Nat)
          obtain ⟨sy, hsy, zy⟩ := sized (y : Nat)
          obtain ⟨sp, hsp, zp⟩ := sized (p : Nat)
          obtain ⟨sq, hsq, zq⟩ := sized (q : Nat)
          obtain ⟨hq0, hpr⟩ := half_prod hr HX.out.1 HY.out.1
          obtain rfl : 0 = sq := (zq.2 hq0).symm
          have hfin : sx ≠ 0 → sy ≠ 0 → sp ≠ 0 := fun h1 h2 h3 => hpr (fun e => h1 (zx.2 e)) (fun e => h2 (zy.2 e)) (zp.1 h3)
          have HSX := Lib.hid hsx
          have HSY := Lib.hid hsy
          have HSP := Lib.hid hsp
          have HSQ := Lib.hid hsq
          have HFIN := Lib.hid hfin
          clear hd hr hp hq hsx hsy hsp hsq zx zy zp zq hq0 hpr hfin hy
          have hm1 : m + 1 ≤ 2 := hlt2
          have hg1 : 2 - (m + 1) < 2 - m := by omega
          go_wp2_with fail
          refine (gnomonref19_Size.calls _ _ _ HSQ.out).mono ?_
          rintro e10 v10 ⟨rfl, hd⟩
          have HO1 := Lib.hid (HO1.out.next hd.below)
          have HO2 := Lib.hid (HO2.out.next hd.below)
          clear hd
          go_wp2_with fail
          refine (gnomonref19_Size.calls _ _ _ HSX.out).mono ?_
          rintro e11 v11 ⟨rfl, hd⟩
          have HO1 := Lib.hid (HO1.out.next hd.below)
          have HO2 := Lib.hid (HO2.out.next hd.below)
          clear hd
          by_cases x0 : sx = 0
          · have x1 : (sx != 0) = false := by rw [x0]; rfl
            have HX0 := Lib.hid x0
            clear x0
            go_wp2_with fail
            go_roundg (2 - (m + 1))
            case measure => exact hg1
            case rel => exact ⟨m + 1, hm1, rfl, rfl, HO1.out, HO2.out⟩
          have x1 : (sx != 0) = true := by simpa using x0
          have HX0 := Lib.hid x0
          clear x0
          go_wp2_with fail
          refine (gnomonref19_Size.calls _ _ _ HSY.out).mono ?_
          rintro e12 v12 ⟨rfl, hd⟩
          have HO1 := Lib.hid (HO1.out.next hd.below)
          have HO2 := Lib.hid (HO2.out.next hd.below)
          clear hd
          by_cases y0 : sy = 0
          · have y1 : (sy != 0) = false := by rw [y0]; rfl
            clear y0
            go_wp2_with fail
            go_roundg (2 - (m + 1))
            case measure => exact hg1
            case rel => exact ⟨m + 1, hm1, rfl, rfl, HO1.out, HO2.out⟩
          have y1 : (sy != 0) = true := by simpa using y0
          have p1 : (sp == 0) = false := by simpa using HFIN.out HX0.out y0
          clear y0
          go_wp2_with fail
          refine (gnomonref19_Size.calls _ _ _ HSP.out).mono ?_
          rintro e13 v13 ⟨rfl, hd⟩
          have HO1 := Lib.hid (HO1.out.next hd.below)
          have HO2 := Lib.hid (HO2.out.next hd.below)
          clear hd
          go_wp2_with fail
          go_roundg (2 - (m + 1))
          case measure => exact hg1
          case rel => exact ⟨m + 1, hm1, rfl, rfl, HO1.out, HO2.out⟩
        · have hn1 : n + 1 ≤ 2 := hlt
          have hg1 : 2 - (n + 1) < 2 - n := by omega
          go_wp2_with fail
          go_roundg (2 - (n + 1))
          case measure => exact hg1
          case rel => exact ⟨n + 1, hn1, rfl, rfl, HO1.out⟩
    · go_wp2_with fail
      refine (splitw_any _ _).mono ?_
      rintro e9 v9 ⟨j, o, rfl, hr, hj, ho, hd⟩
      rw [Int.toNat_natCast] at hr
      have HO := Lib.hid (HO.out.next hd.below)
      obtain ⟨rfl, hO0⟩ := half_split hr HHL.out.1 HHL.out.2.2 HLT.out.1 hj
      obtain ⟨so, hso, zo⟩ := sized (o : Nat)
      obtain rfl : 0 = so := (zo.2 hO0).symm
      have HSO := Lib.hid hso
      clear hd hr hj ho zo hO0 hso
      go_wp2_with fail
      refine (gnomonref19_Size.calls _ _ _ HSO.out).mono ?_
      rintro e10 v10 ⟨rfl, hd⟩
      have HO := Lib.hid (HO.out.next hd.below)
      clear hd
      go_wp2_with fail
      go_ret
      exact ⟨rfl, HO.out.below⟩
end Go.Proofs.Ytbgmadijifefiaa.EftHalvesW
