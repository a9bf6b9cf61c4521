/- The walk of the law EftAgain: the call returns true, and the world has at most new blocks. Condition: the list has at most 1048576 words. -/
import Derived.Test.YtbgmadijifefiaaKEftAgainAgain
import Derived.Test.YtbgmadijifefiaaKEftAgainEftSumsW
import Derived.Deep.LoopGhost
import Derived.Deep.QuietTactic
import Derived.BigQuiet
import Derived.OwnWalk
import Derived.Laws.OwnMore
namespace Go.Proofs.Ytbgmadijifefiaa.EftAgainW
open Go.RowKit Go.Proofs.YtbgmadijifefiaaW.PrintWords Go.Proofs.YtbgmadijifefiaaW.PrintMore Go.Proofs.Ytbgmadijifefiaa.Num Go.Proofs.Ytbgmadijifefiaa.PLib Go.Proofs.Ytbgmadijifefiaa.FW Go.Proofs.Ytbgmadijifefiaa.Eft Go.Proofs.Ytbgmadijifefiaa.EftLaw Go.Proofs.Ytbgmadijifefiaa.Awake Go.Proofs.Ytbgmadijifefiaa.SumsLaw Go.Proofs.Ytbgmadijifefiaa.Again Go.Proofs.Ytbgmadijifefiaa.EftSumsW Fl
theorem on {W w w' : World} (h : Below W.heap.size W w) (k : Below w.heap.size w w') : Below W.heap.size W w' := h.trans (k.mono h.size)
theorem grownBy_of_below {w w' : World} (k : Below w.heap.size w w') : w.grownBy w' none := ⟨k.os, k.tape, k.output, k.size, fun i hi _ => k.block i hi⟩
def vals (K : List Nat) : List Value := K.map fun (x : Nat) => Value.int .u64 (x : Int)
structure Rel (W w : World) (n : Nat) (xs : Nat → Nat) (v : Value) (k : Nat) : Prop where
  mk :: (below : Below W.heap.size W w) (own : ∃ K : List Nat, w.ownsRow W.heap.size 22 1 v K.length (vals K) ∧ Kept xs n K k)
theorem Rel.next {W w w' : World} {n : Nat} {xs : Nat → Nat} {v : Value} {k : Nat} (h : Rel W w n xs v k) (d : Below w.heap.size w w') : Rel W w' n xs v k := by
  obtain ⟨K, h1, h2⟩ := h.own
  exact ⟨on h.below d, K, h1.kept (grownBy_of_below d) (by cases hv : v.ownBlock <;> simp), h2⟩
theorem lit_cells (w : World) (K : List Nat) (T : TypeId) (c : Array Value) (hc : c = (vals K).toArray) : ∀ (j : Nat) (u : Value), (vals K)[j]? = some u → (w.alloc (.cells c T)).cell? ((⟨w.heap.size, 0, none⟩ : Addr).add j) = some u := by
  intro j u hj
  subst hc
  have hlt : j < (vals K).length := (List.getElem?_eq_some_iff.1 hj).1
  have : (⟨w.heap.size, 0, none⟩ : Addr).add j = ⟨w.heap.size, j, none⟩ := by unfold Addr.add; split <;> simp <;> omega
  rw [this]
  simp [hj]
theorem one_cells (K : List Nat) : ∀ u ∈ vals K, u.oneCell' = true := by
  intro u hu
  obtain ⟨x, _, rfl⟩ := List.mem_map.1 hu
  rfl
theorem Rel.snoc {W w w' : World} {n k : Nat} {xs : Nat → Nat} {v v' : Value} {K L : List Nat} {c : Array Value} (h : Rel W w n xs v k) (hown : w.ownsRow W.heap.size 22 1 v K.length (vals K))
    (hown' : w'.ownsRow W.heap.size 22 1 v' (K.length + L.length) (vals K ++ vals L)) (hg : (w.alloc (.cells c 22)).grownBy w' v.ownBlock) (hk : Kept xs n (K ++ L) (k + 1)) : Rel W w' n xs v' (k + 1) := by
  refine ⟨?_, K ++ L, ?_, hk⟩
  · refine (h.below.alloc h.below.size _).grown hg ?_ ?_
    · have := h.below.size; simp; omega
    · intro i hi
      exact (hown.lt i hi).1
  · rw [List.length_append]
    have : vals (K ++ L) = vals K ++ vals L := by unfold vals; rw [List.map_append]
    rw [this]; exact hown'
theorem u64_info : (Try.prog.info? 22).map (fun i => (i.zero, i.size, i.bytes)) = some (some (.int .u64 0), 1, 8) := by kernel_rfl
set_option maxRecDepth 100000 in
set_option maxHeartbeats 4000000 in
theorem walk (b o n cap : Nat) (xs : Nat → Nat) (W : World) (hn : 0 < n) (hn2 : n ≤ 1048576) (hxs : ∀ i, i < n → xs i < 18446744073709551616) (hcell : ∀ i, i < n → W.cell? ⟨b, o + i, none⟩ = some (.int .u64 (xs i))) :
    Calls Try.prog 8 #[.slice (some ⟨b, o, none⟩) n cap] W fun e w' => e = .returned (.bool true) ∧ Below W.heap.size W w' := by
  have HX := Lib.hid hxs
  have HC := Lib.hid hcell
  have hb : b < W.heap.size := World.block_lt_of_cell? _ _ (hcell 0 hn)
  clear hxs hcell
  obtain ⟨i0, hi, hz0, hz1, hz2⟩ := info_parts u64_info
  have HI := Lib.hid (And.intro hi (And.intro hz0 (And.intro hz1 hz2)))
  clear hi hz0 hz1 hz2
  go_enter Try.func8, Try.ntmps8
  go_wp2_with fail
  refine (awake_any _).mono ?_
  rintro e0 v0 ⟨rfl, hd⟩
  have HB := Lib.hid hd.below
  clear hd
  go_wp2_with fail
  have H0 := Lib.hid (Rel.mk (W := W) (xs := xs) (n := n) HB.out ⟨[], World.ownsRow_nil v0 W.heap.size 22 1, Kept.nil xs n⟩)
  clear HB
  go_loopg [3, 4] (2 * n) (fun g v i wr => ∃ k : Nat, k ≤ 2 * n ∧ g = 2 * n - k ∧ i = .int .i64 k ∧ Rel W wr n xs v (min k n))
  case atStart => exact ⟨0, by omega, rfl, rfl, by rw [Nat.zero_min]; exact H0.out⟩
  case round =>
    obtain ⟨k, hk, rfl, rfl, hR⟩ := hrel
    have HR := Lib.hid hR
    clear hR H0
    by_cases hlt : k < 2 * n
    · obtain ⟨k1, hk1⟩ : ∃ k1, k1 = k + 1 := ⟨_, rfl⟩
      obtain ⟨m1, hm1⟩ : ∃ m1, m1 = k % n := ⟨_, rfl⟩
      obtain ⟨m2, hm2⟩ : ∃ m2, m2 = k1 % n := ⟨_, rfl⟩
      have l1 : m1 < n := by rw [hm1]; exact Nat.mod_lt _ hn
      have l2 : m2 < n := by rw [hm2]; exact Nat.mod_lt _ hn
      have hltb : decide ((k : Int) < 2 * (n : Int)) = true := decide_eq_true (by omega)
      have q0 : ((n : Int) == 0) = false := by simp; omega
      have q1 : IntKind.i64.wrap ((k : Int) + 1) = (k1 : Int) := by rw [hk1]; rw [IntWalk.i64_in _ (by omega)]; rfl
      have q2 : Int.tmod (k : Int) (n : Int) = (m1 : Int) := by rw [hm1]; exact (Int.ofNat_tmod k n).symm
      have q3 : Int.tmod (k1 : Int) (n : Int) = (m2 : Int) := by rw [hm2]; exact (Int.ofNat_tmod k1 n).symm
      have c1 : wr.cell? ⟨b, o + m1, none⟩ = some (.int .u64 (xs m1)) := by rw [HR.out.below.cell (p := ⟨b, o + m1, none⟩) hb]; exact HC.out m1 l1
      have c2 : wr.cell? ⟨b, o + m2, none⟩ = some (.int .u64 (xs m2)) := by rw [HR.out.below.cell (p := ⟨b, o + m2, none⟩) hb]; exact HC.out m2 l2
      have HM := Lib.hid (And.intro hk1 (And.intro hm1 hm2))
      clear hk1 hm1 hm2
      go_wp2_with fail
      go_quiet (fail)
      clear q1 q2 q3
      have HR := Lib.hid (HR.out.next (Drew.below ⟨⟨nq, rfl⟩⟩))
      clear c1 c2
      go_wp2_with fail
      refine (sum_any _ _ _).mono ?_
      rintro e1 v1 ⟨s, e, rfl, hr, _, _, hd⟩
      rw [Int.toNat_natCast, Int.toNat_natCast] at hr
      have HS := Lib.hid hr
      have HR := Lib.hid (HR.out.next hd.below)
      clear hr hd
      go_wp2_with fail
      refine (prodw_any _ _ _).mono ?_
      rintro e2 v2 ⟨p, g, rfl, hr, _, _, hd⟩
      rw [Int.toNat_natCast, Int.toNat_natCast] at hr
      have HP := Lib.hid hr
      have HR := Lib.hid (HR.out.next hd.below)
      clear hr hd
      go_wp2_with fail
      refine (splitw_any _ _).mono ?_
      rintro e3 v3 ⟨h, l, rfl, hr, _, _, hd⟩
      rw [Int.toNat_natCast] at hr
      have HL := Lib.hid hr
      have HR := Lib.hid (HR.out.next hd.below)
      clear hr hd
      go_wp2_with fail
      refine (fastw_any _ _ _).mono ?_
      rintro e4 v4 ⟨t, f, rfl, hr, _, _, hd⟩
      rw [Int.toNat_natCast, Int.toNat_natCast] at hr
      have HF := Lib.hid hr
      have HR := Lib.hid (HR.out.next hd.below)
      clear hr hd
      by_cases hkn : k < n
      · have hb2 : decide ((k : Int) < (n : Int)) = true := decide_eq_true (by omega)
        obtain ⟨K, hK1, hK2⟩ := HR.out.own
        have HK1 := Lib.hid hK1
        have HK2 := Lib.hid hK2
        have hKl : K.length ≤ 8388608 := by rw [hK2.1]; omega
        clear hK1 hK2
        go_wp2_with (at_builtin; refine wpList_append_own _ rfl _ _ 32 rfl W.heap.size 22 i0 (.int .u64 0) 1 8 Try.underlying32 HI.out.1 HI.out.2.1 HI.out.2.2.1 HI.out.2.2.2 rfl (by decide) u3 _ _ rfl (HK1.out.alloc _) ⟨v4.heap.size, 0, none⟩ 8 8 (vals [s, e, p, g, h, l, t, f]) rfl rfl ?c1 ?c2 ?c3 ?c4 ?c5 ?_)
        case c1 => exact lit_cells _ [s, e, p, g, h, l, t, f] _ _ rfl
        case c2 => exact one_cells _
        case c3 => unfold maxLen; omega
        case c4 => omega
        case c5 => have := HR.out.below.size; simp; omega
        intro v' w' hown' hgrow _
        have hmin : min k n = k := Nat.min_eq_left (by omega)
        have hmin' : min (k + 1) n = k + 1 := Nat.min_eq_left (by omega)
        have em1 : m1 = k := by rw [HM.out.2.1]; exact Nat.mod_eq_of_lt hkn
        have em2 : m2 = (k + 1) % n := by rw [HM.out.2.2, HM.out.1]
        have HN : Hid (Rel W w' n xs v' (min (k + 1) n)) := by
          rw [hmin']
          have r := HR.out
          rw [hmin] at r
          have k2 := HK2.out
          rw [hmin] at k2
          have a1 := HS.out
          have a2 := HP.out
          have a3 := HL.out
          have a4 := HF.out
          rw [em1, em2] at a1 a2 a4
          rw [em1] at a3
          exact Lib.hid (r.snoc HK1.out hown' hgrow (k2.snoc a1 a2 a3 a4))
        clear hown' hgrow hmin hmin' em1 em2 HK1 HK2 HR HS HP HL HF HM
        have hk2 : k + 1 ≤ 2 * n := hlt
        have hg1 : 2 * n - (k + 1) < 2 * n - k := by omega
        go_wp2_with fail
        go_roundg (2 * n - (k + 1))
        case measure => exact hg1
        case rel => exact ⟨k + 1, hk2, rfl, rfl, HN.out⟩
      · have hb2 : decide ((k : Int) < (n : Int)) = false := decide_eq_false (by omega)
        obtain ⟨m, hm⟩ : ∃ m, k = n + m := ⟨k - n, by omega⟩
        have hmn : m < n := by omega
        have hmin : min k n = n := Nat.min_eq_right (by omega)
        have em1 : m1 = m := by rw [HM.out.2.1, hm, Nat.add_mod_left]; exact Nat.mod_eq_of_lt hmn
        have em2 : m2 = (m + 1) % n := by rw [HM.out.2.2, HM.out.1, hm, Nat.add_assoc, Nat.add_mod_left]
        obtain ⟨below, own⟩ := HR.out
        rw [hmin] at own
        obtain ⟨K, hK1, hK2⟩ := own
        have hKl := hK2.1
        have hal : Hid (∀ j, j < 8 → Al (K.getD (8 * m + j) 0) ([s, e, p, g, h, l, t, f].getD j 0)) := by
          have a1 := HS.out
          have a2 := HP.out
          have a3 := HL.out
          have a4 := HF.out
          rw [em1, em2] at a1 a2 a4
          rw [em1] at a3
          exact Lib.hid (hK2.al hmn a1 a2 a3 a4)
        obtain ⟨G, capk, rfl, hG⟩ : ∃ G capk, u3 = .slice (some ⟨G, 0, none⟩) K.length capk ∧ W.heap.size ≤ G := by
          rcases hK1.2 with ⟨_, h0⟩ | ⟨G, capk, _, e1, h1, _⟩
          · omega
          · exact ⟨G, capk, e1, h1⟩
        have hGlt : G < v4.heap.size := (hK1.lt G rfl).2
        have hcl : Hid (∀ j, j < 8 * n → v4.cell? ⟨G, j, none⟩ = some (.int .u64 ((K.getD j 0 : Nat) : Int))) := by
          refine Lib.hid fun j hj => ?_
          rw [hK1.cellAt j (by omega)]
          unfold vals
          rw [List.getElem?_map, List.getD_eq_getElem?_getD, List.getElem?_eq_getElem (by omega)]
          rfl
        have HRR := Lib.hid HR.out
        have HMN := Lib.hid (And.intro hm hKl)
        generalize hL : K.length = LK at *
        clear below hK1 hK2 hmin em1 em2 HR HS HP HL HF HM hm hKl hL
        go_wp2_with fail
        have HNOW : Hid (∀ j, j < 8 → (v4.alloc (Obj.cells #[.int .u64 s, .int .u64 e, .int .u64 p, .int .u64 g, .int .u64 h, .int .u64 l, .int .u64 t, .int .u64 f] 22)).cell? ⟨v4.heap.size, j, none⟩ = some (.int .u64 (([s, e, p, g, h, l, t, f].getD j 0 : Nat) : Int))) := by
          refine Lib.hid fun j hj => ?_
          rcases (show j = 0 ∨ j = 1 ∨ j = 2 ∨ j = 3 ∨ j = 4 ∨ j = 5 ∨ j = 6 ∨ j = 7 by omega) with rfl | rfl | rfl | rfl | rfl | rfl | rfl | rfl <;> simp
        have HBW : Hid (Below v4.heap.size v4 (v4.alloc (Obj.cells #[.int .u64 s, .int .u64 e, .int .u64 p, .int .u64 g, .int .u64 h, .int .u64 l, .int .u64 t, .int .u64 f] 22)) ∧ v4.heap.size < (v4.alloc (Obj.cells #[.int .u64 s, .int .u64 e, .int .u64 p, .int .u64 g, .int .u64 h, .int .u64 l, .int .u64 t, .int .u64 f] 22)).heap.size) :=
          Lib.hid ⟨(Below.refl _ _).alloc (Nat.le_refl _) _, by simp⟩
        generalize (v4.alloc (Obj.cells #[.int .u64 s, .int .u64 e, .int .u64 p, .int .u64 g, .int .u64 h, .int .u64 l, .int .u64 t, .int .u64 f] 22)) = ws at *
        go_loopg [16] 8 (fun g' j wi => ∃ q : Nat, q ≤ 8 ∧ g' = 8 - q ∧ j = .int .i64 q ∧ Below ws.heap.size ws wi)
        case atStart => exact ⟨0, by omega, rfl, rfl, Below.refl _ _⟩
        case round =>
          obtain ⟨q, hq, rfl, rfl, hI⟩ := hrel
          have HW := Lib.hid hI
          clear hI
          by_cases hq8 : q < 8
          · obtain ⟨d, hd⟩ : ∃ d, d = 8 * m := ⟨_, rfl⟩
            obtain ⟨c, hc⟩ : ∃ c, c = d + q := ⟨_, rfl⟩
            have r1 : IntKind.i64.wrap ((k : Int) - (n : Int)) = (m : Int) := by rw [HMN.out.1, IntWalk.i64_in _ (by omega)]; omega
            have r2 : IntKind.i64.wrap (8 * (m : Int)) = (d : Int) := by rw [IntWalk.i64_in _ (by omega)]; omega
            have r3 : IntKind.i64.wrap ((d : Int) + (q : Int)) = (c : Int) := by rw [IntWalk.i64_in _ (by omega)]; omega
            have hcl2 : c < LK := by have := HMN.out.2; omega
            have c1 : wr.cell? ⟨G, c, none⟩ = some (.int .u64 ((K.getD c 0 : Nat) : Int)) := by
              rw [HW.out.cell (p := ⟨G, c, none⟩) (Nat.lt_trans hGlt HBW.out.2), HBW.out.1.cell (p := ⟨G, c, none⟩) hGlt]
              exact hcl.out c (by omega)
            have c2 : wr.cell? ⟨v4.heap.size, q, none⟩ = some (.int .u64 (([s, e, p, g, h, l, t, f].getD q 0 : Nat) : Int)) := by
              rw [HW.out.cell (p := ⟨v4.heap.size, q, none⟩) HBW.out.2]
              exact HNOW.out q hq8
            have HAG := Lib.hid (again_f (show Al (K.getD c 0) ([s, e, p, g, h, l, t, f].getD q 0) by rw [hc, hd]; exact hal.out q hq8))
            generalize ([s, e, p, g, h, l, t, f].getD q 0) = y at *
            generalize (K.getD c 0) = x at *
            have HD := Lib.hid (And.intro hd hc)
            have hq1 : q + 1 ≤ 8 := hq8
            have hg1 : 8 - (q + 1) < 8 - q := by omega
            have hqb : decide ((q : Int) < 8) = true := decide_eq_true (by omega)
            clear hd hc
            go_wp2_with fail
            go_quiet ((go_at_call 30; exact Calls.quiet_of ((gnomonlaw19_again.calls _ _ true _ HAG.out).mono fun _ _ ⟨h1, h2⟩ => ⟨h1, h2.out⟩)))
            have HW := Lib.hid (HW.out.trans ((Drew.below ⟨⟨nq, rfl⟩⟩).mono HW.out.size))
            clear r1 r2 r3 c1 c2
            go_wp2_with fail
            go_roundg (8 - (q + 1))
            case measure => exact hg1
            case rel => exact ⟨q + 1, hq1, rfl, rfl, HW.out⟩
          · have hk2 : k + 1 ≤ 2 * n := hlt
            have hg1 : 2 * n - (k + 1) < 2 * n - k := by omega
            have hqb : decide ((q : Int) < 8) = false := decide_eq_false (by omega)
            have HN : Hid (Rel W wr n xs (.slice (some ⟨G, 0, none⟩) LK capk) (min (k + 1) n)) := by
              have e1 : min (k + 1) n = min k n := by omega
              rw [e1]
              exact Lib.hid (HRR.out.next (HBW.out.1.trans (HW.out.mono (Nat.le_of_lt HBW.out.2))))
            go_wp2_with fail
            go_roundg (2 * n - (k + 1))
            case measure => exact hg1
            case rel => exact ⟨k + 1, hk2, rfl, rfl, HN.out⟩
    · have hltb : decide ((k : Int) < 2 * (n : Int)) = false := decide_eq_false (by omega)
      go_wp2_with fail
      go_ret
      exact ⟨rfl, HR.out.below⟩
set_option maxRecDepth 100000 in
set_option maxHeartbeats 4000000 in
theorem walk_none (a : Option Addr) (cap : Nat) (W : World) :
    Calls Try.prog 8 #[.slice a 0 cap] W fun e w' => e = .returned (.bool true) ∧ Below W.heap.size W w' := by
  go_enter Try.func8, Try.ntmps8
  go_wp2_with fail
  refine (awake_any _).mono ?_
  rintro e0 v0 ⟨rfl, hd⟩
  have HB := Lib.hid hd.below
  clear hd
  go_wp2_with fail
  go_loopg [4] 1 (fun _ i wr => i = .int .i64 0 ∧ wr = v0)
  case atStart => exact ⟨rfl, rfl⟩
  case round =>
    obtain ⟨rfl, rfl⟩ := hrel
    go_wp2_with fail
    go_ret
    exact ⟨rfl, HB.out⟩
theorem walk_any (a0 : Option Addr) (len0 cap0 : Nat) (z0 : List Int) (W : World)
    (w0 : (a0 = none ∧ len0 = 0 ∧ cap0 = 0 ∧ z0 = []) ∨ ∃ x, a0 = some x ∧ len0 ≤ cap0 ∧ cap0 ≤ maxLen ∧ z0.length = cap0 ∧ (∀ i, i < z0.length → W.cell? (x.add i) = some (.int .u64 (z0.getD i 0))) ∧ ∀ n ∈ z0, (Lit.int .u64 n).wf = true)
    (hk : len0 ≤ 1048576) :
    Calls Try.prog 8 #[.slice a0 len0 cap0] W fun e w' => e = .returned (.bool true) ∧ Below W.heap.size W w' := by
  by_cases h0 : len0 = 0
  · subst h0; exact walk_none _ _ _
  rcases w0 with ⟨_, h, _⟩ | ⟨x, rfl, h1, h2, h3, h4, h5⟩
  · exact absurd h h0
  obtain ⟨b, o, sp⟩ := x
  have hsp : sp = none := by
    have hc := h4 0 (by omega)
    have e : (⟨b, o, sp⟩ : Addr).add 0 = ⟨b, o, sp⟩ := by unfold Addr.add; rw [if_pos rfl]
    rw [e] at hc
    cases sp with
    | none => rfl
    | some s =>
      exfalso
      unfold World.cell? at hc
      simp at hc
      split at hc <;> cases hc
  subst hsp
  have hz : ∀ i, i < len0 → 0 ≤ z0.getD i 0 ∧ z0.getD i 0 < 18446744073709551616 := by
    intro i hi
    have hm : z0.getD i 0 ∈ z0 := by rw [List.getD_eq_getElem?_getD, List.getElem?_eq_getElem (by omega)]; exact List.getElem_mem _
    obtain ⟨n, e, hn⟩ := wf_u64 (h5 _ hm)
    rw [e]; omega
  refine walk b o len0 cap0 (fun i => (z0.getD i 0).toNat) W (by omega) hk (fun i hi => by have := hz i hi; show (z0.getD i 0).toNat < _; omega) (fun i hi => ?_)
  have hc := h4 i (by omega)
  have e : (⟨b, o, none⟩ : Addr).add i = ⟨b, o + i, none⟩ := by unfold Addr.add; split <;> simp <;> omega
  rw [e] at hc
  rw [hc]
  have := hz i hi
  congr 2
  show z0.getD i 0 = (((z0.getD i 0).toNat : Nat) : Int)
  omega
end Go.Proofs.Ytbgmadijifefiaa.EftAgainW
