/- The walk of the law AcceptAll: the call returns true, and the world has at most new blocks. Condition: what any argument's reach gives of the list's length. -/
import Derived.Test.YtbgmadijifefiaaKAcceptAllCell
import Derived.Test.YtbgmadijifefiaaKAcceptAllAcceptMustW
import Derived.Deep.LoopGhost
import Derived.OwnWalk
import Derived.Laws.OwnMore
namespace Go.Proofs.Ytbgmadijifefiaa.AcceptAllW
open Go.RowKit Go.Proofs.YtbgmadijifefiaaW.PrintWords Go.Proofs.YtbgmadijifefiaaW.PrintMore Go.Proofs.Ytbgmadijifefiaa.PLib Go.Proofs.Ytbgmadijifefiaa.FW Go.Proofs.Ytbgmadijifefiaa.Eft Go.Proofs.Ytbgmadijifefiaa.AccW Go.Proofs.Ytbgmadijifefiaa.AcceptSoundW Fl
theorem grownBy_of_below {w w' : World} (k : Below w.heap.size w w') : w.grownBy w' none := ⟨k.os, k.tape, k.output, k.size, fun i hi _ => k.block i hi⟩
def vals (K : List Nat) : List Value := K.map fun (x : Nat) => Value.int .u64 (x : Int)
def oks (S : List Bool) : List Value := S.map Value.bool
structure Calls3 (hi lo : Nat → Nat) (ex : Nat → Int) (n : Nat) : Prop where mk :: (h : ∀ i, i < n → hi i < 18446744073709551616 ∧ lo i < 18446744073709551616 ∧ (Lit.int .i64 (ex i)).wf = true)
def Kept (hi lo : Nat → Nat) (ex : Nat → Int) (K : List Nat) (S : List Bool) (k : Nat) : Prop := K.length = k ∧ S.length = k ∧ ∀ m, m < k → AcceptR (hi m) (lo m) (ex m) (K.getD m 0) (S.getD m false)
theorem Kept.snoc {hi lo : Nat → Nat} {ex : Nat → Int} {K : List Nat} {S : List Bool} {k r : Nat} {ok : Bool} (h : Kept hi lo ex K S k) (hr : AcceptR (hi k) (lo k) (ex k) r ok) : Kept hi lo ex (K ++ [r]) (S ++ [ok]) (k + 1) := by
 obtain ⟨h1, h2, h3⟩ := h
 refine ⟨by simp [h1], by simp [h2], fun m hm => ?_⟩
 by_cases c : m < k
 ·rw [List.getD_eq_getElem?_getD, List.getElem?_append_left (by omega), ← List.getD_eq_getElem?_getD, List.getD_eq_getElem?_getD (l := S ++ [ok]), List.getElem?_append_left (by omega), ← List.getD_eq_getElem?_getD]
  exact h3 m c
 ·obtain rfl : m = k := by omega
  rw [List.getD_eq_getElem?_getD, List.getElem?_append_right (by omega), List.getD_eq_getElem?_getD (l := S ++ [ok]), List.getElem?_append_right (by omega), h1, h2, Nat.sub_self]
  exact hr
structure Rel (W w : World) (hi lo : Nat → Nat) (ex : Nat → Int) (u v : Value) (k : Nat) : Prop where
 mk :: (below : Below W.heap.size W w) (own : ∃ K S, Kept hi lo ex K S k ∧ w.ownsRow W.heap.size 22 1 u K.length (vals K) ∧ w.ownsRow W.heap.size 4 1 v S.length (oks S))
theorem Rel.next {W w w' : World} {hi lo : Nat → Nat} {ex : Nat → Int} {u v : Value} {k : Nat} (h : Rel W w hi lo ex u v k) (d : Below w.heap.size w w') : Rel W w' hi lo ex u v k := by
 obtain ⟨K, S, h0, h1, h2⟩ := h.own
 exact ⟨on h.below d, K, S, h0, h1.kept (grownBy_of_below d) (by cases hv : u.ownBlock <;> simp), h2.kept (grownBy_of_below d) (by cases hv : v.ownBlock <;> simp)⟩
theorem apart_rows {w : World} {B : Nat} {u v : Value} {n m : Nat} {xs ys : List Value} {e e' : TypeId} (hne : e ≠ e') (hu : w.ownsRow B e 1 u n xs) (hv : w.ownsRow B e' 1 v m ys) : v.ownBlock = none ∨ v.ownBlock ≠ u.ownBlock := by
 by_cases h : v.ownBlock = u.ownBlock
 ·cases hb : v.ownBlock with
  | none => exact Or.inl rfl
  | some g =>
   exfalso
   obtain ⟨c1, h1⟩ := own_typed hv g hb
   obtain ⟨c2, h2⟩ := own_typed hu g (h ▸ hb)
   rw [h1] at h2
   injection h2 with h2
   injection h2 with _ h2
   exact hne h2.symm
 ·exact Or.inr h
theorem lit_cells (w : World) (l : List Value) (T : TypeId) (c : Array Value) (hc : c = l.toArray) : ∀ (j : Nat) (u : Value), l[j]? = some u → (w.alloc (.cells c T)).cell? ((⟨w.heap.size, 0, none⟩ : Addr).add j) = some u := by
 intro j u hj
 subst hc
 have hlt : j < l.length := (List.getElem?_eq_some_iff.1 hj).1
 have : (⟨w.heap.size, 0, none⟩ : Addr).add j = ⟨w.heap.size, j, none⟩ := by unfold Addr.add; split <;> simp <;> omega
 rw [this]
 simp [hj]
theorem one_u64 (K : List Nat) : ∀ u ∈ vals K, u.oneCell' = true := by
 intro u hu
 obtain ⟨x, _, rfl⟩ := List.mem_map.1 hu
 rfl
theorem one_bool (K : List Bool) : ∀ u ∈ oks K, u.oneCell' = true := by
 intro u hu
 obtain ⟨x, _, rfl⟩ := List.mem_map.1 hu
 rfl
theorem vals_snoc (K : List Nat) (r : Nat) : vals (K ++ [r]) = vals K ++ vals [r] := by unfold vals; rw [List.map_append]
theorem oks_snoc (S : List Bool) (r : Bool) : oks (S ++ [r]) = oks S ++ oks [r] := by unfold oks; rw [List.map_append]
theorem grow {W w w1 : World} {u v u1 : Value} {K : List Nat} {S : List Bool} {r : Nat} {c : Array Value} (hb : Below W.heap.size W w) (hu : w.ownsRow W.heap.size 22 1 u K.length (vals K)) (hv : w.ownsRow W.heap.size 4 1 v S.length (oks S))
  (hu1 : w1.ownsRow W.heap.size 22 1 u1 (K.length + 1) (vals K ++ vals [r])) (hg : (w.alloc (.cells c 22)).grownBy w1 u.ownBlock) :
  Below W.heap.size W w1 ∧ w1.ownsRow W.heap.size 22 1 u1 (K ++ [r]).length (vals (K ++ [r])) ∧ w1.ownsRow W.heap.size 4 1 v S.length (oks S) := by
 refine ⟨(hb.alloc hb.size _).grown hg ?_ ?_, ?_, (hv.alloc _).kept hg (apart_rows (by decide) hu hv)⟩
 ·have := hb.size; simp; omega
 ·intro i hi
  exact (hu.lt i hi).1
 ·rw [List.length_append, vals_snoc]; exact hu1
theorem grow2 {W w w1 : World} {u v v1 : Value} {K : List Nat} {S : List Bool} {r : Bool} {c : Array Value} (hb : Below W.heap.size W w) (hu : w.ownsRow W.heap.size 22 1 u K.length (vals K)) (hv : w.ownsRow W.heap.size 4 1 v S.length (oks S))
  (hv1 : w1.ownsRow W.heap.size 4 1 v1 (S.length + 1) (oks S ++ oks [r])) (hg : (w.alloc (.cells c 4)).grownBy w1 v.ownBlock) :
  Below W.heap.size W w1 ∧ w1.ownsRow W.heap.size 22 1 u K.length (vals K) ∧ w1.ownsRow W.heap.size 4 1 v1 (S ++ [r]).length (oks (S ++ [r])) := by
 refine ⟨(hb.alloc hb.size _).grown hg ?_ ?_, (hu.alloc _).kept hg (apart_rows (by decide) hv hu), ?_⟩
 ·have := hb.size; simp; omega
 ·intro i hi
  exact (hv.lt i hi).1
 ·rw [List.length_append, oks_snoc]; exact hv1
theorem wfu {n : Nat} (h : n < 18446744073709551616) : (Lit.int .u64 (n : Int)).wf = true := by
 have h2 : (0 : Int) ≤ (n : Int) ∧ (n : Int) ≤ 18446744073709551615 := by omega
 simpa [Lit.wf, IntKind.min, IntKind.max, IntKind.signed, IntKind.bits] using h2
theorem u64_info : (Try.prog.info? 22).map (fun i => (i.zero, i.size, i.bytes)) = some (some (.int .u64 0), 1, 8) := by kernel_rfl
theorem bool_info : (Try.prog.info? 4).map (fun i => (i.zero, i.size, i.bytes)) = some (some (.bool false), 1, 1) := by kernel_rfl
set_option maxRecDepth 100000 in
set_option maxHeartbeats 4000000 in
theorem walk (b o n cap : Nat) (hi lo : Nat → Nat) (ex : Nat → Int) (W : World) (hn : 0 < n) (hn2 : n * 24 ≤ 140737488351232) (hc3 : Calls3 hi lo ex n)
  (hcell : ∀ i, i < n → W.cell? ⟨b, o + i * 3, none⟩ = some (.int .u64 (hi i)) ∧ W.cell? ⟨b, o + i * 3 + 1, none⟩ = some (.int .u64 (lo i)) ∧ W.cell? ⟨b, o + i * 3 + 2, none⟩ = some (.int .i64 (ex i))) :
  Calls Try.prog 14 #[.slice (some ⟨b, o, none⟩) n cap] W (OnW W) := by
 have H3 := Lib.hid hc3
 have HC := Lib.hid hcell
 have hb : b < W.heap.size := World.block_lt_of_cell? _ _ (hcell 0 hn).1
 clear hc3 hcell
 have hu50 := Try.underlying50
 obtain ⟨i0, h1, h2, h3, h4⟩ := info_parts u64_info
 have HI := Lib.hid (And.intro h1 (And.intro h2 (And.intro h3 h4)))
 clear h1 h2 h3 h4
 obtain ⟨j0, h1, h2, h3, h4⟩ := info_parts bool_info
 have HJ := Lib.hid (And.intro h1 (And.intro h2 (And.intro h3 h4)))
 clear h1 h2 h3 h4
 go_enter Try.func14, Try.ntmps14
 go_wp2_with fail
 refine (awake_any _).mono ?_
 rintro e0 v0 ⟨rfl, hd⟩
 have HB := Lib.hid hd
 clear hd
 go_wp2_with fail
 have H0 := Lib.hid (Rel.mk (W := W) (hi := hi) (lo := lo) (ex := ex) (k := 0) HB.out ⟨[], [], ⟨rfl, rfl, fun _ h => absurd h (Nat.not_lt_zero _)⟩, World.ownsRow_nil v0 W.heap.size 22 1, World.ownsRow_nil v0 W.heap.size 4 1⟩)
 clear HB
 go_loopg [3, 4, 17] n (fun g u v i wr => ∃ k : Nat, k ≤ n ∧ g = n - k ∧ i = .int .i64 k ∧ Rel W wr hi lo ex u v k)
 case atStart => exact ⟨0, by omega, rfl, rfl, H0.out⟩
 case round =>
  obtain ⟨k, hk, rfl, rfl, hR⟩ := hrel
  have HR := Lib.hid hR
  clear hR H0
  by_cases hlt : k < n
  ·obtain ⟨a1, a2, a3⟩ := HC.out k hlt
   have c1 : wr.cell? ⟨b, o + k * 3, none⟩ = some (.int .u64 (hi k)) := by rw [HR.out.below.cell (p := ⟨b, o + k * 3, none⟩) hb]; exact a1
   have c2 : wr.cell? ⟨b, o + k * 3 + 1, none⟩ = some (.int .u64 (lo k)) := by rw [HR.out.below.cell (p := ⟨b, o + k * 3 + 1, none⟩) hb]; exact a2
   have c3 : wr.cell? ⟨b, o + k * 3 + 2, none⟩ = some (.int .i64 (ex k)) := by rw [HR.out.below.cell (p := ⟨b, o + k * 3 + 2, none⟩) hb]; exact a3
   clear a1 a2 a3
   go_wp2_with fail
   have hh := H3.out.h k hlt
   refine (ask_any _ _ _ (by rw [Int.toNat_natCast]; exact hh.1) (by rw [Int.toNat_natCast]; exact hh.2.1) _).mono ?_
   rintro e1 v1 ⟨r, ok, rfl, hr, hd⟩
   rw [Int.toNat_natCast, Int.toNat_natCast] at hr
   have HA := Lib.hid hr
   have HR := Lib.hid ((HR.out.next ((Below.refl _ _).alloc (Nat.le_refl _) _)).next hd)
   clear hr hd c1 c2 c3 hh
   obtain ⟨K, S, hk1, hk2, hk3⟩ := HR.out.own
   have hKl : K.length = k := hk1.1
   have hSl : S.length = k := hk1.2.1
   have hK : K.length ≤ 5864062014805 := by omega
   have hS : S.length ≤ 5864062014805 := by omega
   have HK := Lib.hid (And.intro hk1 (And.intro hk2 hk3))
   have HBL := Lib.hid HR.out.below
   have hszW := HBL.out.size
   clear hk1 hk2 hk3 hKl hSl
   go_wp2_with (at_builtin; refine wpList_append_own _ rfl (.tmp 31) (.tmp 33) 32 rfl W.heap.size 22 i0 (.int .u64 0) 1 8 Try.underlying32 HI.out.1 HI.out.2.1 HI.out.2.2.1 HI.out.2.2.2 rfl (by decide) u3 _ _ rfl (HK.out.2.1.alloc _) ⟨v1.heap.size, 0, none⟩ 1 1 (vals [r]) rfl rfl (lit_cells _ (vals [r]) _ _ rfl) (one_u64 _) (by unfold maxLen; omega) (by omega) (by simp; omega) ?_)
   intro u' w1 hown1 hg1 _
   have HK2 := Lib.hid (grow HBL.out HK.out.2.1 HK.out.2.2 hown1 hg1)
   have hszW := HK2.out.1.size
   clear hown1 hg1
   go_wp2_with (at_builtin; refine wpList_append_own _ rfl (.tmp 35) (.tmp 37) 48 rfl W.heap.size 4 j0 (.bool false) 1 1 Try.underlying48 HJ.out.1 HJ.out.2.1 HJ.out.2.2.1 HJ.out.2.2.2 rfl (by decide) u4 _ _ rfl (HK2.out.2.2.alloc _) ⟨w1.heap.size, 0, none⟩ 1 1 (oks [ok]) rfl rfl (lit_cells _ (oks [ok]) _ _ rfl) (one_bool _) (by unfold maxLen; omega) (by omega) (by simp; omega) ?_)
   intro v' w2 hown2 hg2 _
   have HK3 := Lib.hid (grow2 HK2.out.1 HK2.out.2.1 HK2.out.2.2 hown2 hg2)
   have HNX : Hid (Rel W w2 hi lo ex u' v' (k + 1)) := Lib.hid ⟨HK3.out.1, K ++ [r], S ++ [ok], HK.out.1.snoc HA.out, HK3.out.2.1, HK3.out.2.2⟩
   have hk2 : k + 1 ≤ n := hlt
   have hg1 : n - (k + 1) < n - k := by omega
   clear hown2 hg2 HK HK2 HK3 HR HA hszW
   go_wp2_with fail
   go_roundg (n - (k + 1))
   case measure => exact hg1
   case rel => exact ⟨k + 1, hk2, rfl, rfl, HNX.out⟩
  ·obtain rfl : k = n := by omega
   have hltb : decide ((k : Int) < (k : Int)) = false := decide_eq_false (by omega)
   obtain ⟨K, S, hk1, hk2, hk3⟩ := HR.out.own
   have hKl : K.length = k := hk1.1
   have hSl : S.length = k := hk1.2.1
   rw [hKl] at hk2
   rw [hSl] at hk3
   obtain ⟨G, capk, rfl, hG⟩ : ∃ G capk, u3 = .slice (some ⟨G, 0, none⟩) k capk ∧ W.heap.size ≤ G := by
    rcases hk2.2 with ⟨_, h0⟩ | ⟨G, capk, _, e1, h1, _⟩
    ·omega
    ·exact ⟨G, capk, e1, h1⟩
   obtain ⟨G2, capk2, rfl, hG2⟩ : ∃ G capk, u4 = .slice (some ⟨G, 0, none⟩) k capk ∧ W.heap.size ≤ G := by
    rcases hk3.2 with ⟨_, h0⟩ | ⟨G, capk, _, e1, h1, _⟩
    ·omega
    ·exact ⟨G, capk, e1, h1⟩
   have hGlt : G < wr.heap.size := (hk2.lt G rfl).2
   have hGlt2 : G2 < wr.heap.size := (hk3.lt G2 rfl).2
   have HCK : Hid (∀ j, j < k → wr.cell? ⟨G, j, none⟩ = some (.int .u64 ((K.getD j 0 : Nat) : Int)) ∧ wr.cell? ⟨G2, j, none⟩ = some (.bool (S.getD j false))) := by
    refine Lib.hid fun j hj => ⟨?_, ?_⟩
    ·rw [hk2.cellAt j (by omega)]
     unfold vals
     rw [List.getElem?_map, List.getD_eq_getElem?_getD, List.getElem?_eq_getElem (by omega)]
     rfl
    ·rw [hk3.cellAt j (by omega)]
     unfold oks
     rw [List.getElem?_map, List.getD_eq_getElem?_getD, List.getElem?_eq_getElem (by omega)]
     rfl
   have HKA := Lib.hid hk1.2.2
   have HBL := Lib.hid HR.out.below
   clear hk1 hk2 hk3 HR hKl hSl hG hG2
   go_wp2_with fail
   have hwsz : W.heap.size ≤ wr.heap.size := HBL.out.size
   go_loopg [42] k (fun g i wi => ∃ q : Nat, q ≤ k ∧ g = k - q ∧ i = .int .i64 q ∧ Below wr.heap.size wr wi)
   case atStart => exact ⟨0, by omega, rfl, rfl, Below.refl _ _⟩
   case round =>
    obtain ⟨q, hq, rfl, rfl, hI⟩ := hrel
    have HW := Lib.hid hI
    clear hI
    have hbw := Lib.hid (on HBL.out HW.out)
    by_cases hlt : q < k
    ·obtain ⟨a1, a2, a3⟩ := HC.out q hlt
     have c1 : wr.cell? ⟨b, o + q * 3, none⟩ = some (.int .u64 (hi q)) := by rw [hbw.out.cell (p := ⟨b, o + q * 3, none⟩) hb]; exact a1
     have c2 : wr.cell? ⟨b, o + q * 3 + 1, none⟩ = some (.int .u64 (lo q)) := by rw [hbw.out.cell (p := ⟨b, o + q * 3 + 1, none⟩) hb]; exact a2
     have c3 : wr.cell? ⟨b, o + q * 3 + 2, none⟩ = some (.int .i64 (ex q)) := by rw [hbw.out.cell (p := ⟨b, o + q * 3 + 2, none⟩) hb]; exact a3
     clear a1 a2 a3
     have hqb : decide ((q : Int) < (k : Int)) = true := decide_eq_true (by omega)
     go_wp2_with fail
     have hh := H3.out.h q hlt
     refine (ask_any _ _ _ (by rw [Int.toNat_natCast]; exact hh.1) (by rw [Int.toNat_natCast]; exact hh.2.1) _).mono ?_
     rintro e1 v1 ⟨r, ok, rfl, hr, hd⟩
     rw [Int.toNat_natCast, Int.toNat_natCast] at hr
     obtain ⟨er, eo⟩ := ask_det hr (HKA.out q hlt)
     subst er
     subst eo
     have HW := Lib.hid (on HW.out (on ((Below.refl _ _).alloc (Nat.le_refl _) _) hd))
     have hbw := Lib.hid (on HBL.out HW.out)
     have c4 : v1.cell? ⟨G, q, none⟩ = some (.int .u64 ((K.getD q 0 : Nat) : Int)) := by rw [HW.out.cell (p := ⟨G, q, none⟩) hGlt]; exact (HCK.out q hlt).1
     have c5 : v1.cell? ⟨G2, q, none⟩ = some (.bool (S.getD q false)) := by rw [HW.out.cell (p := ⟨G2, q, none⟩) hGlt2]; exact (HCK.out q hlt).2
     clear c1 c2 c3
     have c1 : v1.cell? ⟨wr.heap.size, 0, none⟩ = some (.int .u64 (hi q)) := by rw [hd.cell (p := ⟨wr.heap.size, 0, none⟩) (by simp)]; simp
     have c2 : v1.cell? ⟨wr.heap.size, 1, none⟩ = some (.int .u64 (lo q)) := by rw [hd.cell (p := ⟨wr.heap.size, 1, none⟩) (by simp)]; simp
     have c3 : v1.cell? ⟨wr.heap.size, 2, none⟩ = some (.int .i64 (ex q)) := by rw [hd.cell (p := ⟨wr.heap.size, 2, none⟩) (by simp)]; simp
     clear hr hd
     generalize K.getD q 0 = r at *
     generalize S.getD q false = ok at *
     have hlt3 : wr.heap.size < v1.heap.size := World.block_lt_of_cell? _ _ c1
     have g1 : ((r : Int) != (r : Int)) = false := by simp
     have g2 : (ok != ok) = false := by simp
     go_wp2_with fail
     refine (AcceptSoundW.walk _ _ _ _ (wfu hh.1) (wfu hh.2.1) hh.2.2).mono ?_
     rintro e2 v2 ⟨rfl, hd⟩
     have HW := Lib.hid (on HW.out hd)
     have c1' : v2.cell? ⟨wr.heap.size, 0, none⟩ = some (.int .u64 (hi q)) := by rw [hd.cell (p := ⟨wr.heap.size, 0, none⟩) hlt3]; exact c1
     have c2' : v2.cell? ⟨wr.heap.size, 1, none⟩ = some (.int .u64 (lo q)) := by rw [hd.cell (p := ⟨wr.heap.size, 1, none⟩) hlt3]; exact c2
     have c3' : v2.cell? ⟨wr.heap.size, 2, none⟩ = some (.int .i64 (ex q)) := by rw [hd.cell (p := ⟨wr.heap.size, 2, none⟩) hlt3]; exact c3
     clear hd c1 c2 c3
     go_wp2_with fail
     refine (AcceptMustW.walk _ _ _ _ (wfu hh.1) (wfu hh.2.1) hh.2.2).mono ?_
     rintro e3 v3 ⟨rfl, hd⟩
     have HW := Lib.hid (on HW.out hd)
     clear hd c1' c2' c3'
     have hk2 : q + 1 ≤ k := hlt
     have hg1 : k - (q + 1) < k - q := by omega
     go_wp2_with fail
     go_roundg (k - (q + 1))
     case measure => exact hg1
     case rel => exact ⟨q + 1, hk2, rfl, rfl, HW.out⟩
    ·have hqb : decide ((q : Int) < (k : Int)) = false := decide_eq_false (by omega)
     go_wp2_with fail
     go_ret
     exact ⟨rfl, hbw.out⟩
set_option maxRecDepth 100000 in
set_option maxHeartbeats 4000000 in
theorem walk_none (a : Option Addr) (cap : Nat) (W : World) : Calls Try.prog 14 #[.slice a 0 cap] W (OnW W) := by
 go_enter Try.func14, Try.ntmps14
 go_wp2_with fail
 refine (awake_any _).mono ?_
 rintro e0 v0 ⟨rfl, hd⟩
 have HB := Lib.hid hd
 clear hd
 go_wp2_with fail
 go_loopg [17] 1 (fun _ i wr => i = .int .i64 0 ∧ wr = v0)
 case atStart => exact ⟨rfl, rfl⟩
 case round =>
  obtain ⟨rfl, rfl⟩ := hrel
  go_wp2_with fail
  go_loopg [42] 1 (fun _ i wi => i = .int .i64 0 ∧ wi = wr)
  case atStart => exact ⟨rfl, rfl⟩
  case round =>
   obtain ⟨rfl, rfl⟩ := hrel
   go_wp2_with fail
   go_ret
   exact ⟨rfl, HB.out⟩
def IsOps (w : World) (a : Option Addr) (len : Nat) : Prop :=
 len = 0 ∨ ∃ x, a = some x ∧ ∀ i, i < len → ∃ p q r : Int, w.cell? (x.add (i * 3)) = some (.int .u64 p) ∧ w.cell? (x.add (i * 3 + 1)) = some (.int .u64 q) ∧ w.cell? (x.add (i * 3 + 2)) = some (.int .i64 r) ∧ (Lit.int .u64 p).wf = true ∧ (Lit.int .u64 q).wf = true ∧ (Lit.int .i64 r).wf = true
theorem walk_any (a0 : Option Addr) (len0 cap0 : Nat) (W : World) (w0 : IsOps W a0 len0) (hk : len0 * 24 ≤ 140737488351232) :
  Calls Try.prog 14 #[.slice a0 len0 cap0] W (OnW W) := by
 by_cases h0 : len0 = 0
 ·subst h0; exact walk_none _ _ _
 rcases w0 with h | ⟨⟨b, o, sp⟩, rfl, h⟩
 ·exact absurd h h0
 have hsp : sp = none := by
  obtain ⟨p, _, _, hc, _⟩ := h 0 (by omega)
  have e : (⟨b, o, sp⟩ : Addr).add (0 * 3) = ⟨b, o, sp⟩ := by unfold Addr.add; rw [if_pos rfl]
  rw [e] at hc
  cases sp with
  | none => rfl
  | some s =>
   exfalso
   unfold World.cell? at hc
   simp at hc
   split at hc <;> cases hc
 subst hsp
 have h' : ∀ i, ∃ t : Nat × Nat × Int, i < len0 → (W.cell? ⟨b, o + i * 3, none⟩ = some (.int .u64 (t.1 : Int)) ∧ W.cell? ⟨b, o + i * 3 + 1, none⟩ = some (.int .u64 (t.2.1 : Int)) ∧ W.cell? ⟨b, o + i * 3 + 2, none⟩ = some (.int .i64 t.2.2)) ∧ (t.1 < 18446744073709551616 ∧ t.2.1 < 18446744073709551616 ∧ (Lit.int .i64 t.2.2).wf = true) := by
  intro i
  by_cases hi : i < len0
  ·obtain ⟨p, q, r, c1, c2, c3, f1, f2, f3⟩ := h i hi
   obtain ⟨x, rfl, hx⟩ := wf_u64' f1
   obtain ⟨y, rfl, hy⟩ := wf_u64' f2
   have ea : ∀ k, (⟨b, o, none⟩ : Addr).add k = ⟨b, o + k, none⟩ := by intro k; unfold Addr.add; split <;> simp <;> omega
   rw [ea] at c1 c2 c3
   exact ⟨(x, y, r), fun _ => ⟨⟨c1, c2, c3⟩, hx, hy, f3⟩⟩
  ·exact ⟨(0, 0, 0), fun h => absurd h hi⟩
 obtain ⟨t, ht⟩ := Classical.skolem.1 h'
 exact walk b o len0 cap0 (fun i => (t i).1) (fun i => (t i).2.1) (fun i => (t i).2.2) W (by omega) hk ⟨fun i hi => (ht i hi).2⟩ (fun i hi => (ht i hi).1)
end Go.Proofs.Ytbgmadijifefiaa.AcceptAllW
