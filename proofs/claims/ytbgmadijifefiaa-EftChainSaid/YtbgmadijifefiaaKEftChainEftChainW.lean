/- The walk of the law EftChain: the call returns true, and the world has at most new blocks. Condition: the list has at most 2^44 words (what any argument's reach gives). -/
import Derived.Test.YtbgmadijifefiaaKEftChainChain
import Derived.Test.YtbgmadijifefiaaKEftChainEftSumsW
import Derived.Deep.LoopGhost
import Derived.OwnWalk
import Derived.Laws.OwnMore
namespace Go.Proofs.Ytbgmadijifefiaa.EftChainW
open Go.RowKit Go.Proofs.YtbgmadijifefiaaW.PrintWords Go.Proofs.YtbgmadijifefiaaW.PrintMore Go.Proofs.Ytbgmadijifefiaa.Num Go.Proofs.Ytbgmadijifefiaa.PLib Go.Proofs.Ytbgmadijifefiaa.Ref Go.Proofs.Ytbgmadijifefiaa.FW Go.Proofs.Ytbgmadijifefiaa.Eft Go.Proofs.Ytbgmadijifefiaa.EftLaw Go.Proofs.Ytbgmadijifefiaa.Awake Go.Proofs.Ytbgmadijifefiaa.SumsLaw Go.Proofs.Ytbgmadijifefiaa.Chain Go.Proofs.Ytbgmadijifefiaa.EftSumsW Fl
theorem on {W w w' : World} (h : Below W.heap.size W w) (k : Below w.heap.size w w') : Below W.heap.size W w' := h.trans (k.mono h.size)
theorem grownBy_of_below {w w' : World} (k : Below w.heap.size w w') : w.grownBy w' none := ⟨k.os, k.tape, k.output, k.size, fun i hi _ => k.block i hi⟩
def vals (K : List Nat) : List Value := K.map fun (x : Nat) => Value.int .u64 (x : Int)
structure ZB (w : World) (T : Nat) (z : Int) : Prop where
  mk :: (out : ∃ A c, w.heap[T]? = some (.cells #[.bool (zn z), .slice A (zl z).length c] 38 (0, 0)) ∧ Kd.R (Kd.int .u32) 83 w 0 (fun _ => True) (.slice A (zl z).length c) (zl z))
theorem ZB.next {w w' : World} {T : Nat} {z : Int} (h : ZB w T z) (d : Below w.heap.size w w') : ZB w' T z := by
  obtain ⟨A, c, h1, h2⟩ := h.out
  exact ⟨A, c, blk_below h1 d, Kd.R_below h2 d⟩
theorem R_apart {w w' : World} {B m : Nat} {u v : Value} {l : List Int} {ys : List Value} (h : Kd.R (Kd.int .u32) 83 w 0 (fun _ => True) u l) (ho : w.ownsRow B 22 1 v m ys) {w0 : World} (hb : Below w.heap.size w w0) (hg : w0.grownBy w' v.ownBlock) : Kd.R (Kd.int .u32) 83 w' 0 (fun _ => True) u l := by
  have h1 : Kd.R (Kd.int .u32) 83 w 0 (fun k => some k ≠ v.ownBlock) u l := Kd.R_mono (Kd.R_bound h) (fun k hk e => by
    obtain ⟨_, _, _, q, hq, cells, hc⟩ := hk
    obtain ⟨cells', hc'⟩ := own_typed ho k e.symm
    rw [hc] at hc'
    injection hc' with hc'
    injection hc' with _ hc'
    rw [hc'] at hq
    rcases List.mem_cons.1 hq with hq | hq
    · exact absurd hq (by decide)
    · cases hq)
  exact Kd.R_mono (Kd.R_grown (Kd.R_below h1 hb) hg (fun k hk => hk)) (fun _ _ => trivial)
theorem units_zero : ∃ k, gnomonref19_Units.f k ((0 : Nat) : Int) = some (zn 0, zl 0) := by
  have h := units_ev 0 (by decide)
  have u0 : U 0 = 0 := by decide
  rw [u0] at h
  exact h.rounds
structure Rel (W w : World) (T N k : Nat) (Z S : Int) (a : Nat) (v : Value) : Prop where
  mk :: (below : Below W.heap.size W w) (zb : ZB w T Z) (own : ∃ L : List Nat, Ch N k S a L ∧ w.ownsRow W.heap.size 22 1 v L.length (vals L))
theorem Rel.next {W w w' : World} {T N k : Nat} {Z S : Int} {a : Nat} {v : Value} (h : Rel W w T N k Z S a v) (d : Below w.heap.size w w') : Rel W w' T N k Z S a v := by
  obtain ⟨L, h1, h2⟩ := h.own
  exact ⟨on h.below d, h.zb.next d, L, h1, h2.kept (grownBy_of_below d) (by cases hv : v.ownBlock <;> simp)⟩
theorem apart {W w : World} {T : Nat} {v : Value} {L : List Nat} {cs : Array Value} (hb : w.heap[T]? = some (.cells cs 38 (0, 0))) (ho : w.ownsRow W.heap.size 22 1 v L.length (vals L)) : some T ≠ v.ownBlock := by
  intro e
  obtain ⟨cells, hc⟩ := own_typed ho T e.symm
  rw [hb] at hc
  injection hc with hc
  injection hc with _ hc
  exact absurd hc (by decide)
theorem stored {W w w1 : World} {T N k : Nat} {Z S S' : Int} {a : Nat} {v u y0 y1 : Value} (h : Rel W w T N k Z S a v) (hT : W.heap.size ≤ T) (hb : w.heap[T]? = some (.cells #[y0, y1] 38 (0, 0))) (d : Below w.heap.size w w1) {A : Option Addr} {c : Nat}
    (hr : Kd.R (Kd.int .u32) 83 w1 w.heap.size (fun _ => True) u (zl S')) (hu : u = .slice A (zl S').length c) :
    Rel W ((w1.setCell ⟨T, 0, none⟩ (.bool (zn S'))).setCell ⟨T, 1, none⟩ u) T N k S' S a v := by
  have hlt := blk_lt hb
  have hb1 := blk_below hb d
  obtain ⟨L, h1, h2⟩ := h.own
  have hne := apart (W := W) hb h2
  have h2' := h2.kept (grownBy_of_below d) (by cases hv : v.ownBlock <;> simp)
  have hr1 : Kd.R (Kd.int .u32) 83 w1 w.heap.size (fun k => k ≠ T) u (zl S') := Kd.R_mono (Kd.R_bound hr) (fun k hk => by have := hk.2.1; omega)
  have hr2 := Kd.R_far (p := ⟨T, 1, none⟩) (Kd.R_far (p := ⟨T, 0, none⟩) hr1 (fun _ hk => hk) (.bool (zn S'))) (fun _ hk => hk) u
  subst hu
  refine ⟨((on h.below d).setCell hT _).setCell hT _, ⟨A, c, ?_, Kd.R_mono (Kd.R_lower hr2 (Nat.zero_le _)) (fun _ _ => trivial)⟩, L, h1, own_setCell (own_setCell h2' hne _) hne _⟩
  exact blk_set (blk_set hb1 0 (.bool (zn S'))) 1 (.slice A (zl S').length c)
theorem lit_cells (w : World) (K : List Nat) (T : TypeId) (c : Array Value) (hc : c = (vals K).toArray) : ∀ (j : Nat) (u : Value), (vals K)[j]? = some u → (w.alloc (.cells c T)).cell? ((⟨w.heap.size, 0, none⟩ : Addr).add j) = some u := by
  intro j u hj
  subst hc
  have hlt : j < (vals K).length := (List.getElem?_eq_some_iff.1 hj).1
  have : (⟨w.heap.size, 0, none⟩ : Addr).add j = ⟨w.heap.size, j, none⟩ := by unfold Addr.add; split <;> simp <;> omega
  rw [this]
  simp [hj]
theorem one_cells (K : List Nat) : ∀ u ∈ vals K, u.oneCell' = true := by
  intro u hu
  obtain ⟨x, _, rfl⟩ := List.mem_map.1 hu
  rfl
theorem Rel.snoc {W w w' : World} {T N k a a' e : Nat} {Z S : Int} {v v' : Value} {L : List Nat} {c : Array Value} (h : Rel W w T N k Z S a v) (hown : w.ownsRow W.heap.size 22 1 v L.length (vals L))
    (hown' : w'.ownsRow W.heap.size 22 1 v' (L.length + 1) (vals L ++ vals [e])) (hg : (w.alloc (.cells c 22)).grownBy w' v.ownBlock) (hc : Ch N (k + 1) Z a' (L ++ [e])) : Rel W w' T N (k + 1) Z Z a' v' := by
  obtain ⟨A, c0, hb, h1⟩ := h.zb.out
  have hne := apart (W := W) hb hown
  refine ⟨?_, ⟨A, c0, ?_, ?_⟩, L ++ [e], hc, ?_⟩
  · refine (h.below.alloc h.below.size _).grown hg ?_ ?_
    · have := h.below.size; simp; omega
    · intro i hi
      exact (hown.lt i hi).1
  · exact blk_grown (blk_alloc hb _) hg hne
  · exact R_apart h1 hown ((Below.refl _ _).alloc (Nat.le_refl _) _) hg
  · rw [List.length_append]
    have : vals (L ++ [e]) = vals L ++ vals [e] := by unfold vals; rw [List.map_append]
    rw [this]; exact hown'
theorem ZB.other {w : World} {T T2 : Nat} {z : Int} {cs : Array Value} (h : ZB w T z) (hne : T ≠ T2) (hb : w.heap[T2]? = some (.cells cs 38 (0, 0))) (i : Nat) (u : Value) : ZB (w.setCell ⟨T2, i, none⟩ u) T z := by
  obtain ⟨A, c, h1, h2⟩ := h.out
  exact ⟨A, c, blk_far h1 hne u, Kd.R_set h2 hb (by decide) i u⟩
theorem ZB.put {w : World} {T2 : Nat} {z : Int} {u y0 y1 : Value} {A : Option Addr} {c : Nat} (hb : w.heap[T2]? = some (.cells #[y0, y1] 38 (0, 0))) (hr : Kd.R (Kd.int .u32) 83 w 0 (fun _ => True) u (zl z)) (hu : u = .slice A (zl z).length c) :
    ZB ((w.setCell ⟨T2, 0, none⟩ (.bool (zn z))).setCell ⟨T2, 1, none⟩ u) T2 z := by
  subst hu
  exact ⟨A, c, blk_set (blk_set hb 0 (.bool (zn z))) 1 (.slice A (zl z).length c), Kd.R_set (Kd.R_set hr hb (by decide) 0 _) (blk_set hb 0 _) (by decide) 1 _⟩
structure Back (W w : World) (T T2 G : Nat) (L : List Nat) (S Y : Int) : Prop where
  mk :: (below : Below W.heap.size W w) (zt : ZB w T S) (zb : ZB w T2 Y) (row : ∀ j, j < L.length → w.cell? ⟨G, j, none⟩ = some (.int .u64 ((L.getD j 0 : Nat) : Int))) (lt : G < w.heap.size)
theorem Back.next {W w w' : World} {T T2 G : Nat} {L : List Nat} {S Y : Int} (h : Back W w T T2 G L S Y) (d : Below w.heap.size w w') : Back W w' T T2 G L S Y :=
  ⟨on h.below d, h.zt.next d, h.zb.next d, fun j hj => (d.cell (p := ⟨G, j, none⟩) h.lt).trans (h.row j hj), Nat.lt_of_lt_of_le h.lt d.size⟩
theorem Back.put {W w w1 : World} {T T2 G : Nat} {L : List Nat} {S Y Y' : Int} {u y0 y1 : Value} {A : Option Addr} {c : Nat} (h : Back W w T T2 G L S Y) (hT : W.heap.size ≤ T2) (hne : T ≠ T2) (hG : G ≠ T2) (hb : w.heap[T2]? = some (.cells #[y0, y1] 38 (0, 0))) (d : Below w.heap.size w w1)
    (hr : Kd.R (Kd.int .u32) 83 w1 w.heap.size (fun _ => True) u (zl Y')) (hu : u = .slice A (zl Y').length c) : Back W ((w1.setCell ⟨T2, 0, none⟩ (.bool (zn Y'))).setCell ⟨T2, 1, none⟩ u) T T2 G L S Y' := by
  have h1 := h.next d
  have hb1 := blk_below hb d
  refine ⟨(h1.below.setCell hT _).setCell hT _, (h1.zt.other hne hb1 0 _).other hne (blk_set hb1 0 _) 1 _, ZB.put hb1 (Kd.R_lower hr (Nat.zero_le _)) hu, fun j hj => ?_, by simpa [World.setCell] using h1.lt⟩
  rw [cell_far (a := ⟨G, j, none⟩) (p := ⟨T2, 1, none⟩) hG, cell_far (a := ⟨G, j, none⟩) (p := ⟨T2, 0, none⟩) hG]
  exact h1.row j hj
theorem take_next (a : Nat) (L : List Nat) (j : Nat) (hj : j < L.length) : U a + sumU (L.take j) + U (L.getD j 0) = U a + sumU (L.take (j + 1)) := by
  rw [List.take_succ_eq_append_getElem hj, sumU_snoc, List.getD_eq_getElem?_getD, List.getElem?_eq_getElem hj]
  show U a + sumU (L.take j) + U L[j] = _
  omega
theorem back_all {N k : Nat} {S : Int} {acc : Nat} {L : List Nat} (h : Ch N k S acc L) : U acc + sumU (L.take L.length) = S := by rw [List.take_length]; exact h.sum
theorem pow_m300 : gnomonref19_Pow.f (-300) = some 3256102530588868608 := by
  unfold gnomonref19_Pow.f wrap64
  rw [IntKind.wrap_u64, IntKind.wrap_u64]
  decide
theorem pow_900 : gnomonref19_Pow.f 900 = some 8660422083433463808 := by
  unfold gnomonref19_Pow.f wrap64
  rw [IntKind.wrap_u64, IntKind.wrap_u64]
  decide
theorem size_some (x : Nat) : ∃ s : Int, gnomonref19_Size.f (x : Int) = some s := ⟨_, rfl⟩
theorem u64_info : (Try.prog.info? 22).map (fun i => (i.zero, i.size, i.bytes)) = some (some (.int .u64 0), 1, 8) := by kernel_rfl
set_option maxRecDepth 100000 in
set_option maxHeartbeats 4000000 in
theorem walk (b o n cap : Nat) (xs : Nat → Nat) (W : World) (hn : 0 < n) (hn2 : n * 8 ≤ 140737488351232) (hxs : ∀ i, i < n → xs i < 18446744073709551616) (hcell : ∀ i, i < n → W.cell? ⟨b, o + i, none⟩ = some (.int .u64 (xs i))) :
    Calls Try.prog 11 #[.slice (some ⟨b, o, none⟩) n cap] W fun e w' => e = .returned (.bool true) ∧ Below W.heap.size W w' := by
  have HX := Lib.hid hxs
  have HC := Lib.hid hcell
  have hb : b < W.heap.size := World.block_lt_of_cell? _ _ (hcell 0 hn)
  clear hxs hcell
  obtain ⟨i0, hi, hz0, hz1, hz2⟩ := info_parts u64_info
  have HI := Lib.hid (And.intro hi (And.intro hz0 (And.intro hz1 hz2)))
  clear hi hz0 hz1 hz2
  have hu38 := Try.underlying38
  obtain ⟨ku, hku⟩ := units_zero
  have HU := Lib.hid hku
  clear hku
  go_enter Try.func11, Try.ntmps11
  go_wp2_with fail
  refine (awake_any _).mono ?_
  rintro e0 v0 ⟨rfl, hd⟩
  have HB := Lib.hid hd.below
  clear hd
  go_wp2_with fail
  refine (gnomonref19_Units.calls ku _ _ _ _ HU.out).mono ?_
  rintro e1 v1 ⟨v, rfl, hr, hd⟩
  have HB := Lib.hid (on HB.out hd)
  obtain ⟨A, c, rfl, hc, hC⟩ := Kd.R_reads hr
  have HZ := Lib.hid (Kd.R_lower hr (Nat.zero_le _))
  clear hr hd hc hC
  go_wp2_with fail
  obtain ⟨N, hN⟩ : ∃ N, N = 1974 := ⟨_, rfl⟩
  have HN := Lib.hid hN
  clear hN
  have H0 : Hid (Rel W (v1.alloc (Obj.cells #[.bool (zn 0), .slice A (zl 0).length c] 38)) v1.heap.size N 0 0 0 0 (.slice none 0 0)) :=
    Lib.hid ⟨HB.out.alloc HB.out.size _, ⟨A, c, blk_new _ _, Kd.R_alloc HZ.out _⟩, [], Ch.zero N, World.ownsRow_nil _ _ _ _⟩
  have hT : Hid (W.heap.size ≤ v1.heap.size) := Lib.hid HB.out.size
  clear HB HZ HU
  generalize (v1.alloc (Obj.cells #[.bool (zn 0), .slice A (zl 0).length c] 38)) = v2 at *
  generalize v1.heap.size = T at *
  have HP3 := Lib.hid pow_m300
  have HP9 := Lib.hid pow_900
  go_loopg [4, 5, 18] n (fun g acc v i wr => ∃ k : Nat, k ≤ n ∧ g = n - k ∧ i = .int .i64 k ∧ ∃ (a : Nat) (S : Int), acc = .int .u64 a ∧ Rel W wr T N k S S a v)
  case atStart => exact ⟨0, by omega, rfl, rfl, 0, 0, rfl, H0.out⟩
  case round =>
    obtain ⟨k, hk, rfl, rfl, a, S, rfl, hR⟩ := hrel
    have HR := Lib.hid hR
    clear hR H0
    by_cases hlt : k < n
    · obtain ⟨x, hx⟩ : ∃ x, x = xs k := ⟨_, rfl⟩
      have hxl : x < 18446744073709551616 := by rw [hx]; exact HX.out k hlt
      have c1 : wr.cell? ⟨b, o + k, none⟩ = some (.int .u64 x) := by rw [HR.out.below.cell (p := ⟨b, o + k, none⟩) hb, hx]; exact HC.out k hlt
      obtain ⟨s, hs⟩ := size_some x
      obtain ⟨hy, s0, s1⟩ := xw_int hxl hs
      have HS := Lib.hid hs
      have HY := Lib.hid hy
      clear hs hy hx
      go_wp2_with fail
      clear c1
      refine (gnomonref19_Pow.calls _ _ _ HP3.out).mono ?_
      rintro e3 w3 ⟨rfl, hd⟩
      have HR := Lib.hid (HR.out.next hd.below)
      clear hd
      go_wp2_with fail
      refine (gnomonref19_Size.calls _ _ _ HS.out).mono ?_
      rintro e4 w4 ⟨rfl, hd⟩
      have HR := Lib.hid (HR.out.next hd.below)
      clear hd
      go_wp2_with fail
      refine (gnomonref19_Pow.calls _ _ _ HP9.out).mono ?_
      rintro e5 w5 ⟨rfl, hd⟩
      have HR := Lib.hid (HR.out.next hd.below)
      clear hd
      go_wp2_with fail
      refine (gnomonref19_Pow.calls _ _ _ HP3.out).mono ?_
      rintro e6 w6 ⟨rfl, hd⟩
      have HR := Lib.hid (HR.out.next hd.below)
      clear hd
      obtain ⟨A1, c1, hb1, hr1⟩ := HR.out.zb.out
      obtain ⟨_, hc1, hC1⟩ := Kd.R_reads' hr1
      clear hr1
      have k0 : w6.cell? ⟨T, 0, none⟩ = some (.bool (zn S)) := (blk_cell hb1 0).trans rfl
      have k1 : w6.cell? ⟨T, 1, none⟩ = some (.slice A1 (zl S).length c1) := (blk_cell hb1 1).trans rfl
      have HB1 := Lib.hid hb1
      have HC1 := Lib.hid (And.intro hc1 hC1)
      clear hb1 hc1 hC1
      obtain ⟨kp, hkp⟩ := (plus_ev HN.out (z := S) (m := k) (by omega) (by obtain ⟨L, hl, _⟩ := HR.out.own; exact hl.S_le) (xw_lt hxl) (Nat.le_trans (U_xw HN.out hxl).2 (Nat.le_mul_of_pos_left _ (by decide)))).rounds
      have HKP := Lib.hid hkp
      clear hkp
      go_wp2_with fail
      rw [← HY.out]
      refine (gnomonlaw19_plus.calls kp _ _ _ _ _ _ _ _ HC1.out.2 HC1.out.1 HKP.out).mono ?_
      rintro e7 w7 ⟨u, rfl, hr, hd⟩
      obtain ⟨A2, c2, hu, _, _⟩ := Kd.R_reads hr
      have HST := Lib.hid (stored HR.out hT.out HB1.out hd hr hu)
      have hb7 := blk_below HB1.out hd
      have f0 := blk_frozen hb7 0
      have f1 := blk_frozen hb7 1
      have k2 : w7.cell? ⟨T, 0, none⟩ = some (.bool (zn S)) := (blk_cell hb7 0).trans rfl
      have k3 : w7.cell? ⟨T, 1, none⟩ = some (.slice A1 (zl S).length c1) := (blk_cell hb7 1).trans rfl
      subst hu
      clear hr hd hb7 k0 k1 HR HB1 HC1 HKP
      go_wp2_with fail
      refine (sum_any _ _ _).mono ?_
      rintro e8 w8 ⟨s', e, rfl, hr, hs', he, hd⟩
      rw [Int.toNat_natCast, Int.toNat_natCast] at hr
      have HR := Lib.hid (HST.out.next hd.below)
      clear hd f0 f1 k2 k3 HST
      obtain ⟨L, hL1, hL2⟩ := HR.out.own
      obtain ⟨hst, hat⟩ := hL1.step HN.out (by omega) hxl hs' he hr
      have hAt := atMost_f s' 1022 (by decide)
      rw [decide_eq_true (show sz s' ≤ (1022 + 1023) * 2^52 from hat)] at hAt
      have HAT := Lib.hid hAt
      have HST := Lib.hid hst
      have HL := Lib.hid hL2
      have hlen : L.length ≤ 17592186044415 := by rw [hL1.len]; omega
      clear hL1 hL2 hst hat hAt hr hs' he
      go_wp2_with fail
      refine (gnomonref19_AtMost.calls _ _ true _ HAT.out).mono ?_
      rintro e9 w9 ⟨rfl, hd⟩
      have HR := Lib.hid (HR.out.next hd.below)
      have HL := Lib.hid (HL.out.kept (grownBy_of_below hd.below) (by cases hv : u5.ownBlock <;> simp))
      clear hd
      go_wp2_with (at_builtin; refine wpList_append_own _ rfl _ _ 32 rfl W.heap.size 22 i0 (.int .u64 0) 1 8 Try.underlying32 HI.out.1 HI.out.2.1 HI.out.2.2.1 HI.out.2.2.2 rfl (by decide) u5 _ _ rfl (HL.out.alloc _) ⟨w9.heap.size, 0, none⟩ 1 1 (vals [e]) rfl rfl ?c1 ?c2 ?c3 ?c4 ?c5 ?_)
      case c1 => exact lit_cells _ [e] _ _ rfl
      case c2 => exact one_cells _
      case c3 => unfold maxLen; omega
      case c4 => omega
      case c5 => have := HR.out.below.size; simp; omega
      intro v' w' hown' hgrow _
      have hk2 : k + 1 ≤ n := hlt
      have hg1 : n - (k + 1) < n - k := by omega
      have HNX : Hid (Rel W w' T N (k + 1) (S + U (xw x)) (S + U (xw x)) s' v') := Lib.hid (HR.out.snoc HL.out hown' hgrow HST.out)
      clear hown' hgrow HR HL HST
      go_wp2_with fail
      go_roundg (n - (k + 1))
      case measure => exact hg1
      case rel => exact ⟨k + 1, hk2, rfl, rfl, s', _, rfl, HNX.out⟩
    · obtain ⟨L, hL1, hL2⟩ := HR.out.own
      obtain rfl : n = k := by omega
      have HLT := Lib.hid hL1.lt
      have ubd : (U a).natAbs ≤ 2^46 * 2^N := Nat.le_trans hL1.bound (Nat.mul_le_mul_right _ (by omega))
      obtain ⟨ku2, hku⟩ := (units_ev a hL1.lt).rounds
      have HKU := Lib.hid hku
      have HCH := Lib.hid hL1
      have HL := Lib.hid hL2
      have hlen : L.length ≤ 17592186044415 := by rw [hL1.len]; omega
      clear hL1 hL2 hku ubd HLT hlt
      obtain ⟨G, capk, rfl, hG⟩ : ∃ G capk, u5 = .slice (some ⟨G, 0, none⟩) L.length capk ∧ W.heap.size ≤ G := by
        rcases HL.out.2 with ⟨_, h0⟩ | ⟨G, capk, _, e1, h1, _⟩
        · have := HCH.out.len; omega
        · exact ⟨G, capk, e1, h1⟩
      have hGlt : G < wr.heap.size := (HL.out.lt G rfl).2
      have hcl : Hid (∀ j, j < L.length → wr.cell? ⟨G, j, none⟩ = some (.int .u64 ((L.getD j 0 : Nat) : Int))) := by
        refine Lib.hid fun j hj => ?_
        rw [HL.out.cellAt j (by omega)]
        unfold vals
        rw [List.getElem?_map, List.getD_eq_getElem?_getD, List.getElem?_eq_getElem hj]
        rfl
      have HZB := Lib.hid HR.out.zb
      have HBB := Lib.hid HR.out.below
      generalize hLn : L.length = LN at *
      have HLN := Lib.hid hLn
      clear hLn HL HR
      go_wp2_with fail
      refine (gnomonref19_Units.calls ku2 _ _ _ _ HKU.out).mono ?_
      rintro e1 v3 ⟨v, rfl, hr, hd⟩
      have HBB := Lib.hid (on HBB.out hd)
      have HZB := Lib.hid (HZB.out.next hd)
      have hcl := Lib.hid (fun (j : Nat) (hj : j < LN) => (hd.cell (p := ⟨G, j, none⟩) hGlt).trans (hcl.out j hj))
      have hGlt := Nat.lt_of_lt_of_le hGlt hd.size
      obtain ⟨A3, c3, rfl, hc, hC⟩ := Kd.R_reads hr
      have HZ := Lib.hid (Kd.R_lower hr (Nat.zero_le _))
      clear hr hd hc hC
      go_wp2_with fail
      have HBK : Hid (Back W (v3.alloc (Obj.cells #[.bool (zn (U a)), .slice A3 (zl (U a)).length c3] 38)) T v3.heap.size G L S (U a + sumU (L.take 0))) := by
        have e0 : U a + sumU (L.take 0) = U a := by show U a + 0 = U a; omega
        rw [e0]
        have d : Below v3.heap.size v3 (v3.alloc (Obj.cells #[.bool (zn (U a)), .slice A3 (zl (U a)).length c3] 38)) := (Below.refl _ _).alloc (Nat.le_refl _) _
        exact Lib.hid ⟨on HBB.out d, HZB.out.next d, ⟨A3, c3, blk_new _ _, Kd.R_alloc HZ.out _⟩, fun j hj => (d.cell (p := ⟨G, j, none⟩) hGlt).trans (hcl.out j (by rw [← HLN.out]; exact hj)), by simp; omega⟩
      have HNE : Hid (T ≠ v3.heap.size ∧ G ≠ v3.heap.size ∧ W.heap.size ≤ v3.heap.size) := by
        obtain ⟨_, _, hb0, _⟩ := HZB.out.out
        have := blk_lt hb0
        have := HBB.out.size
        exact Lib.hid ⟨by omega, by omega, by omega⟩
      clear HBB HZB hcl HZ hGlt
      generalize (v3.alloc (Obj.cells #[.bool (zn (U a)), .slice A3 (zl (U a)).length c3] 38)) = v5 at *
      generalize v3.heap.size = T2 at *
      go_loopg [56] LN (fun g i wi => ∃ j : Nat, j ≤ LN ∧ g = LN - j ∧ i = .int .i64 j ∧ Back W wi T T2 G L S (U a + sumU (L.take j)))
      case atStart => exact ⟨0, by omega, rfl, rfl, HBK.out⟩
      case round =>
        obtain ⟨j, hj, rfl, rfl, hB⟩ := hrel
        have HB := Lib.hid hB
        clear hB HBK
        by_cases hjl : j < LN
        · obtain ⟨y, hy⟩ : ∃ y, y = L.getD j 0 := ⟨_, rfl⟩
          have hjL : j < L.length := by rw [HLN.out]; exact hjl
          have c1 : wr.cell? ⟨G, j, none⟩ = some (.int .u64 y) := by rw [hy]; exact HB.out.row j hjL
          have hall := HCH.out.all y (by rw [hy, List.getD_eq_getElem?_getD, List.getElem?_eq_getElem hjL]; exact List.getElem_mem _)
          have HF := Lib.hid (finite_f hall.2.1)
          have hkn : n ≤ 17592186044416 := by omega
          have hjn : j ≤ n := by have := HCH.out.len; omega
          obtain ⟨kp, hkp⟩ := (plus_ev HN.out (back_m hkn hjn) (back_le HCH.out j hjn) hall.1 hall.2.2).rounds
          have hnx := take_next a L j hjL
          rw [← hy] at hnx
          rw [hnx] at hkp
          have HKP := Lib.hid hkp
          have hj1 : j + 1 ≤ LN := hjl
          have hg1 : LN - (j + 1) < LN - j := by omega
          obtain ⟨Ab, cb, hb1, hr1⟩ := HB.out.zb.out
          obtain ⟨_, hcc, hC1⟩ := Kd.R_reads' hr1
          have HB1 := Lib.hid hb1
          have HC1 := Lib.hid (And.intro hcc hC1)
          have HHY := Lib.hid hy
          clear hnx hall hkp hr1 hb1 hcc hC1 hy hjL
          go_wp2_with fail
          refine (gnomonref19_Finite.calls _ true _ HF.out).mono ?_
          rintro e7 w7 ⟨rfl, hd⟩
          have HB1 := Lib.hid (blk_below HB1.out hd.below)
          have HC1 := Lib.hid (And.intro HC1.out.1 (Kd.C_below HC1.out.2 hd.below))
          have HB := Lib.hid (HB.out.next hd.below)
          have k0 : w7.cell? ⟨T2, 0, none⟩ = some (.bool (zn (U a + sumU (L.take j)))) := (blk_cell HB1.out 0).trans rfl
          have k1 : w7.cell? ⟨T2, 1, none⟩ = some (.slice Ab (zl (U a + sumU (L.take j))).length cb) := (blk_cell HB1.out 1).trans rfl
          clear hd c1
          go_wp2_with fail
          refine (gnomonlaw19_plus.calls kp _ _ _ _ _ _ _ _ HC1.out.2 HC1.out.1 HKP.out).mono ?_
          rintro e8 w8 ⟨u, rfl, hr, hd⟩
          obtain ⟨A4, c4, hu, _, _⟩ := Kd.R_reads hr
          have HBX := Lib.hid (HB.out.put HNE.out.2.2 HNE.out.1 HNE.out.2.1 HB1.out hd hr hu)
          have hb8 := blk_below HB1.out hd
          have f0 := blk_frozen hb8 0
          have f1 := blk_frozen hb8 1
          have k2 : w8.cell? ⟨T2, 0, none⟩ = some (.bool (zn (U a + sumU (L.take j)))) := (blk_cell hb8 0).trans rfl
          have k3 : w8.cell? ⟨T2, 1, none⟩ = some (.slice Ab (zl (U a + sumU (L.take j))).length cb) := (blk_cell hb8 1).trans rfl
          subst hu
          clear hr hd hb8 k0 k1 HB HB1 HC1 HKP
          go_wp2_with fail
          go_roundg (LN - (j + 1))
          case measure => exact hg1
          case rel => exact ⟨j + 1, hj1, rfl, rfl, HBX.out⟩
        · obtain rfl : LN = j := by omega
          have hs : U a + sumU (L.take LN) = S := by rw [← HLN.out]; exact back_all HCH.out
          rw [hs] at HB
          obtain ⟨ks, hks⟩ := (same_ev HN.out (z := S) (m := n) (by omega) HCH.out.S_le).rounds
          have HKS := Lib.hid hks
          obtain ⟨At, ct, hbt, hrt⟩ := HB.out.zt.out
          obtain ⟨Ab, cb, hbb, hrb⟩ := HB.out.zb.out
          obtain ⟨_, hct, hCt⟩ := Kd.R_reads' hrt
          obtain ⟨_, hcb, hCb⟩ := Kd.R_reads' hrb
          have k0 : wr.cell? ⟨T, 0, none⟩ = some (.bool (zn S)) := (blk_cell hbt 0).trans rfl
          have k1 : wr.cell? ⟨T, 1, none⟩ = some (.slice At (zl S).length ct) := (blk_cell hbt 1).trans rfl
          have k2 : wr.cell? ⟨T2, 0, none⟩ = some (.bool (zn S)) := (blk_cell hbb 0).trans rfl
          have k3 : wr.cell? ⟨T2, 1, none⟩ = some (.slice Ab (zl S).length cb) := (blk_cell hbb 1).trans rfl
          have HT := Lib.hid (And.intro (And.intro hct hCt) (And.intro hcb hCb))
          clear hks hbt hbb hrt hrb hct hCt hcb hCb hs hjl
          go_wp2_with fail
          refine (gnomonlaw19_same.calls ks _ _ _ _ _ _ _ _ _ _ HT.out.1.2 HT.out.1.1 HT.out.2.2 HT.out.2.1 HKS.out).mono ?_
          rintro e8 w8 ⟨rfl, hd⟩
          have HB := Lib.hid (on HB.out.below hd)
          clear hd
          go_wp2_with fail
          go_ret
          exact ⟨rfl, HB.out⟩
set_option maxRecDepth 100000 in
set_option maxHeartbeats 4000000 in
theorem walk_none (a : Option Addr) (cap : Nat) (W : World) :
    Calls Try.prog 11 #[.slice a 0 cap] W fun e w' => e = .returned (.bool true) ∧ Below W.heap.size W w' := by
  have hu38 := Try.underlying38
  obtain ⟨ku, hku⟩ := units_zero
  have HU := Lib.hid hku
  obtain ⟨N, hN⟩ : ∃ N, N = 1974 := ⟨_, rfl⟩
  obtain ⟨ks, hks⟩ := (same_ev hN (z := 0) (m := 0) (by decide) (by simp)).rounds
  clear hN
  have HKS := Lib.hid hks
  clear hku hks
  go_enter Try.func11, Try.ntmps11
  go_wp2_with fail
  refine (awake_any _).mono ?_
  rintro e0 v0 ⟨rfl, hd⟩
  have HB := Lib.hid hd.below
  clear hd
  go_wp2_with fail
  refine (gnomonref19_Units.calls ku _ _ _ _ HU.out).mono ?_
  rintro e1 v1 ⟨v, rfl, hr, hd⟩
  have HB := Lib.hid (on HB.out hd)
  obtain ⟨A, c, rfl, hc, hC⟩ := Kd.R_reads hr
  have HZ := Lib.hid (Kd.R_lower hr (Nat.zero_le _))
  clear hr hd hc hC
  go_wp2_with fail
  have HZT : Hid (ZB (v1.alloc (Obj.cells #[.bool (zn 0), .slice A (zl 0).length c] 38)) v1.heap.size 0 ∧ Below W.heap.size W (v1.alloc (Obj.cells #[.bool (zn 0), .slice A (zl 0).length c] 38))) :=
    Lib.hid ⟨⟨A, c, blk_new _ _, Kd.R_alloc HZ.out _⟩, HB.out.alloc HB.out.size _⟩
  clear HB HZ
  generalize (v1.alloc (Obj.cells #[.bool (zn 0), .slice A (zl 0).length c] 38)) = v2 at *
  generalize v1.heap.size = T at *
  go_loopg [4, 5, 18] 1 (fun _ acc v i wr => acc = .int .u64 0 ∧ v = .slice none 0 0 ∧ i = .int .i64 0 ∧ wr = v2)
  case atStart => exact ⟨rfl, rfl, rfl, rfl⟩
  case round =>
    obtain ⟨rfl, rfl, rfl, rfl⟩ := hrel
    go_wp2_with fail
    refine (gnomonref19_Units.calls ku _ _ _ _ HU.out).mono ?_
    rintro e1 v3 ⟨v, rfl, hr, hd⟩
    have HZT := Lib.hid (And.intro (HZT.out.1.next hd) (on HZT.out.2 hd))
    obtain ⟨A3, c3, rfl, hc, hC⟩ := Kd.R_reads hr
    have HZ := Lib.hid (Kd.R_lower hr (Nat.zero_le _))
    clear hr hd hc hC
    go_wp2_with fail
    have HZU : Hid (ZB (v3.alloc (Obj.cells #[.bool (zn 0), .slice A3 (zl 0).length c3] 38)) v3.heap.size 0 ∧ ZB (v3.alloc (Obj.cells #[.bool (zn 0), .slice A3 (zl 0).length c3] 38)) T 0 ∧ Below W.heap.size W (v3.alloc (Obj.cells #[.bool (zn 0), .slice A3 (zl 0).length c3] 38))) :=
      Lib.hid ⟨⟨A3, c3, blk_new _ _, Kd.R_alloc HZ.out _⟩, HZT.out.1.next ((Below.refl _ _).alloc (Nat.le_refl _) _), HZT.out.2.alloc HZT.out.2.size _⟩
    clear HZT HZ
    generalize (v3.alloc (Obj.cells #[.bool (zn 0), .slice A3 (zl 0).length c3] 38)) = v4 at *
    generalize v3.heap.size = T2 at *
    go_loopg [56] 1 (fun _ i wi => i = .int .i64 0 ∧ wi = v4)
    case atStart => exact ⟨rfl, rfl⟩
    case round =>
      obtain ⟨rfl, rfl⟩ := hrel
      obtain ⟨Ab, cb, hbb, hrb⟩ := HZU.out.1.out
      obtain ⟨At, ct, hbt, hrt⟩ := HZU.out.2.1.out
      obtain ⟨_, hct, hCt⟩ := Kd.R_reads' hrt
      obtain ⟨_, hcb, hCb⟩ := Kd.R_reads' hrb
      have k0 := (blk_cell hbt 0).trans rfl
      have k1 := (blk_cell hbt 1).trans rfl
      have k2 := (blk_cell hbb 0).trans rfl
      have k3 := (blk_cell hbb 1).trans rfl
      have HT := Lib.hid (And.intro (And.intro hct hCt) (And.intro hcb hCb))
      clear hbt hbb hrt hrb hct hCt hcb hCb
      go_wp2_with fail
      refine (gnomonlaw19_same.calls ks _ _ _ _ _ _ _ _ _ _ HT.out.1.2 HT.out.1.1 HT.out.2.2 HT.out.2.1 HKS.out).mono ?_
      rintro e8 w8 ⟨rfl, hd⟩
      have HB := Lib.hid (on HZU.out.2.2 hd)
      clear hd
      go_wp2_with fail
      go_ret
      exact ⟨rfl, HB.out⟩
theorem walk_any (a0 : Option Addr) (len0 cap0 : Nat) (z0 : List Int) (W : World)
    (w0 : (a0 = none ∧ len0 = 0 ∧ cap0 = 0 ∧ z0 = []) ∨ ∃ x, a0 = some x ∧ len0 ≤ cap0 ∧ cap0 ≤ maxLen ∧ z0.length = cap0 ∧ (∀ i, i < z0.length → W.cell? (x.add i) = some (.int .u64 (z0.getD i 0))) ∧ ∀ n ∈ z0, (Lit.int .u64 n).wf = true)
    (hk : len0 * 8 ≤ 140737488351232) :
    Calls Try.prog 11 #[.slice a0 len0 cap0] W fun e w' => e = .returned (.bool true) ∧ Below W.heap.size W w' := by
  by_cases h0 : len0 = 0
  · subst h0; exact walk_none _ _ _
  rcases w0 with ⟨_, h, _⟩ | ⟨x, rfl, h1, h2, h3, h4, h5⟩
  · exact absurd h h0
  obtain ⟨b, o, sp⟩ := x
  have hsp : sp = none := by
    have hc := h4 0 (by omega)
    have e : (⟨b, o, sp⟩ : Addr).add 0 = ⟨b, o, sp⟩ := by unfold Addr.add; rw [if_pos rfl]
    rw [e] at hc
    cases sp with
    | none => rfl
    | some s =>
      exfalso
      unfold World.cell? at hc
      simp at hc
      split at hc <;> cases hc
  subst hsp
  have hz : ∀ i, i < len0 → 0 ≤ z0.getD i 0 ∧ z0.getD i 0 < 18446744073709551616 := by
    intro i hi
    have hm : z0.getD i 0 ∈ z0 := by rw [List.getD_eq_getElem?_getD, List.getElem?_eq_getElem (by omega)]; exact List.getElem_mem _
    obtain ⟨n, e, hn⟩ := wf_u64 (h5 _ hm)
    rw [e]; omega
  refine walk b o len0 cap0 (fun i => (z0.getD i 0).toNat) W (by omega) hk (fun i hi => by have := hz i hi; show (z0.getD i 0).toNat < _; omega) (fun i hi => ?_)
  have hc := h4 i (by omega)
  have e : (⟨b, o, none⟩ : Addr).add i = ⟨b, o + i, none⟩ := by unfold Addr.add; split <;> simp <;> omega
  rw [e] at hc
  rw [hc]
  have := hz i hi
  congr 2
  show z0.getD i 0 = (((z0.getD i 0).toNat : Nat) : Int)
  omega
end Go.Proofs.Ytbgmadijifefiaa.EftChainW
