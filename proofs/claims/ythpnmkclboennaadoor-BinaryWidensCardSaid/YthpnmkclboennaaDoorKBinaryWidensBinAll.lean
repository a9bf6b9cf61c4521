/- The walk of the law's script loop: where each call that is played returns true, the loop returns true. Conditions: the script's cells and the kinds' cells are as told. -/
import Derived.Test.YthpnmkclboennaaDoorKBinaryWidensBinA
import Derived.Deep.LoopGhost
import Derived.Test.YthpnmkclboennaaDoorKBinaryWidensWMore
import Derived.Test.YthpnmkclboennaaDoorKBinaryWidensWTab
namespace Go.Proofs.YthpnmkclboennaaDoor.BinAll
open Go.RowKit Go.Proofs.YthpnmkclboennaaDoorW.PrintWords Go.Proofs.YthpnmkclboennaaDoorW.PrintMore Go.Proofs.YthpnmkclboennaaDoorW.PrintLast Go.Proofs.YthpnmkclboennaaDoor.BinLaw Go.Proofs.YthpnmkclboennaaDoor.BinA
def OnW (W : World) : Ending → World → Prop := fun e w' => e = .returned (.bool true) ∧ Below W.heap.size W w'
def PlaysOk (I : World → Prop) (k : Int) : Prop := ∀ (f : Int) (b : Nat) (neg : Bool) (n : Int) (w : World), I w → (Lit.int .i64 f).wf = true → b < 18446744073709551616 → (Lit.int .i64 n).wf = true →
  Calls Tryd.prog 64 #[.agg #[.int .i64 k, .int .i64 f, .int .u64 b, .bool neg, .int .i64 n]] w (OnW w)
structure Scr (W : World) (b o n : Nat) (kd fm nn : Nat → Int) (bs : Nat → Nat) (ng : Nat → Bool) : Prop where mk :: (h : ∀ i, i < n → W.cell? ⟨b, o + i * 5, none⟩ = some (.int .i64 (kd i)) ∧ W.cell? ⟨b, o + i * 5 + 1, none⟩ = some (.int .i64 (fm i)) ∧ W.cell? ⟨b, o + i * 5 + 2, none⟩ = some (.int .u64 (bs i : Nat)) ∧ W.cell? ⟨b, o + i * 5 + 3, none⟩ = some (.bool (ng i)) ∧ W.cell? ⟨b, o + i * 5 + 4, none⟩ = some (.int .i64 (nn i)) ∧ (Lit.int .i64 (fm i)).wf = true ∧ bs i < 18446744073709551616 ∧ (Lit.int .i64 (nn i)).wf = true)
structure IW (I : World → Prop) (W w : World) : Prop where mk :: (inv : I w) (below : Below W.heap.size W w)
set_option maxRecDepth 100000 in
set_option maxHeartbeats 4000000 in
theorem all_walk (I : World → Prop) (hI : ∀ w w' : World, I w → Below w.heap.size w w' → I w') (b o n cap : Nat) (kd fm nn : Nat → Int) (bs : Nat → Nat) (ng : Nat → Bool) (g m mc : Nat) (K : Nat → Int) (W : World) (hW : I W) (hn : 0 < n) (hn2 : n < 9000000000000000000) (hm0 : 0 < m) (hm : m < 20)
    (hs : Scr W b o n kd fm nn bs ng) (hk : ∀ j, j < m → W.cell? ⟨g, j, none⟩ = some (.int .i64 (K j))) (hp : ∀ j, j < m → PlaysOk I (K j)) :
    Calls Tryd.prog 29 #[.slice (some ⟨b, o, none⟩) n cap, .slice (some ⟨g, 0, none⟩) m mc] W (OnW W) := by
  have HI := Lib.hid hI
  have HS := Lib.hid hs
  have HK := Lib.hid hk
  have HP := Lib.hid hp
  have hb : b < W.heap.size := World.block_lt_of_cell? _ _ (hs.h 0 hn).1
  have hg : g < W.heap.size := World.block_lt_of_cell? _ _ (hk 0 hm0)
  have H0 := Lib.hid (IW.mk (W := W) hW (Below.refl _ _))
  clear hs hk hp hI hW
  go_enter Tryd.func29, Tryd.ntmps29
  go_wp2_with fail
  go_loopg [11] n (fun g i wr => ∃ k : Nat, k ≤ n ∧ g = n - k ∧ i = .int .i64 k ∧ IW I W wr)
  case atStart => exact ⟨0, by omega, rfl, rfl, H0.out⟩
  case round =>
    obtain ⟨k, hk, rfl, rfl, hR⟩ := hrel
    have HR := Lib.hid hR
    clear hR H0
    by_cases hlt : k < n
    · obtain ⟨a1, a2, a3, a4, a5, _, _, _⟩ := HS.out.h k hlt
      have c1 : wr.cell? ⟨b, o + k * 5, none⟩ = some (.int .i64 (kd k)) := by rw [HR.out.below.cell (p := ⟨b, o + k * 5, none⟩) hb]; exact a1
      have c2 : wr.cell? ⟨b, o + k * 5 + 1, none⟩ = some (.int .i64 (fm k)) := by rw [HR.out.below.cell (p := ⟨b, o + k * 5 + 1, none⟩) hb]; exact a2
      have c3 : wr.cell? ⟨b, o + k * 5 + 2, none⟩ = some (.int .u64 (bs k : Nat)) := by rw [HR.out.below.cell (p := ⟨b, o + k * 5 + 2, none⟩) hb]; exact a3
      have c4 : wr.cell? ⟨b, o + k * 5 + 3, none⟩ = some (.bool (ng k)) := by rw [HR.out.below.cell (p := ⟨b, o + k * 5 + 3, none⟩) hb]; exact a4
      have c5 : wr.cell? ⟨b, o + k * 5 + 4, none⟩ = some (.int .i64 (nn k)) := by rw [HR.out.below.cell (p := ⟨b, o + k * 5 + 4, none⟩) hb]; exact a5
      clear a1 a2 a3 a4 a5
      go_wp2_with fail
      have hsz : W.heap.size ≤ wr.heap.size := HR.out.below.size
      have kb := Lib.hid (blk_new wr (Obj.cells #[.int .i64 (kd k), .int .i64 (fm k), .int .u64 (bs k : Nat), .bool (ng k), .int .i64 (nn k)] 101))
      have HR2 := Lib.hid (IW.mk (HI.out _ _ HR.out.inv (box wr (Obj.cells #[.int .i64 (kd k), .int .i64 (fm k), .int .u64 (bs k : Nat), .bool (ng k), .int .i64 (nn k)] 101))) (on HR.out.below (box wr _)))
      clear c1 c2 c3 c4 c5
      generalize (wr.alloc (Obj.cells #[.int .i64 (kd k), .int .i64 (fm k), .int .u64 (bs k : Nat), .bool (ng k), .int .i64 (nn k)] 101)) = w0 at *
      generalize wr.heap.size = G at *
      go_loopg [17] m (fun g i wi => ∃ q : Nat, q ≤ m ∧ g = m - q ∧ i = .int .i64 q ∧ IW I w0 wi)
      case atStart => exact ⟨0, by omega, rfl, rfl, ⟨HR2.out.inv, Below.refl _ _⟩⟩
      case round =>
        obtain ⟨q, hq, rfl, rfl, hI⟩ := hrel
        have HW := Lib.hid hI
        clear hI
        have HB := Lib.hid (on HR2.out.below HW.out.below)
        have kz := Lib.hid (blk_below kb.out HW.out.below)
        by_cases hlq : q < m
        · have kz0 : wr.cell? ⟨G, 0, none⟩ = some (.int .i64 (kd k)) := (blk_cell kz.out 0).trans rfl
          have kz1 : wr.cell? ⟨G, 1, none⟩ = some (.int .i64 (fm k)) := (blk_cell kz.out 1).trans rfl
          have kz2 : wr.cell? ⟨G, 2, none⟩ = some (.int .u64 (bs k : Nat)) := (blk_cell kz.out 2).trans rfl
          have kz3 : wr.cell? ⟨G, 3, none⟩ = some (.bool (ng k)) := (blk_cell kz.out 3).trans rfl
          have kz4 : wr.cell? ⟨G, 4, none⟩ = some (.int .i64 (nn k)) := (blk_cell kz.out 4).trans rfl
          have ck : wr.cell? ⟨g, q, none⟩ = some (.int .i64 (K q)) := by rw [HB.out.cell (p := ⟨g, q, none⟩) hg]; exact HK.out q hlq
          have hq2 : q + 1 ≤ m := hlq
          have hg1 : m - (q + 1) < m - q := by omega
          have qlt : decide ((q : Int) < (m : Int)) = true := decide_eq_true (by omega)
          by_cases heq : kd k = K q
          · rw [heq] at kz0
            have hh := Lib.hid (HS.out.h k hlt).2.2.2.2.2
            clear kz heq
            go_wp2_with fail
            refine (HP.out q hlq (fm k) (bs k) (ng k) (nn k) _ HW.out.inv hh.out.1 hh.out.2.1 hh.out.2.2).mono ?_
            rintro e1 v1 ⟨rfl, hd⟩
            have HNX : Hid (IW I w0 v1) := Lib.hid ⟨HI.out _ _ HW.out.inv hd, on HW.out.below hd⟩
            clear hd kz0 kz1 kz2 kz3 kz4 ck hh
            go_wp2_with fail
            go_roundg (m - (q + 1))
            case measure => exact hg1
            case rel => exact ⟨q + 1, hq2, rfl, rfl, HNX.out⟩
          · have hne : (kd k == K q) = false := by simpa using heq
            clear kz heq
            go_wp2_with fail
            go_roundg (m - (q + 1))
            case measure => exact hg1
            case rel => exact ⟨q + 1, hq2, rfl, rfl, HW.out⟩
        · obtain rfl : q = m := by omega
          have hltb : decide ((q : Int) < (q : Int)) = false := decide_eq_false (by omega)
          have HNX : Hid (IW I W wr) := Lib.hid ⟨HW.out.inv, HB.out⟩
          have hk2 : k + 1 ≤ n := hlt
          have hg1 : n - (k + 1) < n - k := by omega
          go_wp2_with fail
          go_roundg (n - (k + 1))
          case measure => exact hg1
          case rel => exact ⟨k + 1, hk2, rfl, rfl, HNX.out⟩
    · obtain rfl : k = n := by omega
      have hltb : decide ((k : Int) < (k : Int)) = false := decide_eq_false (by omega)
      go_wp2_with fail
      go_ret
      exact ⟨rfl, HR.out.below⟩
theorem all_none (a : Option Addr) (cap : Nat) (v : Value) (W : World) : Calls Tryd.prog 29 #[.slice a 0 cap, v] W (OnW W) := by
  go_enter Tryd.func29, Tryd.ntmps29
  go_wp2_with fail
  go_loopg [11] 0 (fun g i wr => g = 0 ∧ i = .int .i64 0 ∧ Below W.heap.size W wr)
  case atStart => exact ⟨rfl, rfl, Below.refl _ _⟩
  case round =>
    obtain ⟨rfl, rfl, hR⟩ := hrel
    go_wp2_with fail
    go_ret
    exact ⟨rfl, hR⟩
def IsOps (w : World) (a : Option Addr) (len : Nat) : Prop :=
  len = 0 ∨ ∃ x, a = some x ∧ ∀ i, i < len → ∃ (k f b n : Int) (g : Bool), w.cell? (x.add (i * 5)) = some (.int .i64 k) ∧ w.cell? (x.add (i * 5 + 1)) = some (.int .i64 f) ∧ w.cell? (x.add (i * 5 + 2)) = some (.int .u64 b) ∧ w.cell? (x.add (i * 5 + 3)) = some (.bool g) ∧ w.cell? (x.add (i * 5 + 4)) = some (.int .i64 n) ∧ (Lit.int .i64 f).wf = true ∧ (Lit.int .u64 b).wf = true ∧ (Lit.int .i64 n).wf = true
theorem wf_u64' {n : Int} (h : (Lit.int .u64 n).wf = true) : ∃ m : Nat, n = (m : Int) ∧ m < 18446744073709551616 := by
  simp [Lit.wf, IntKind.min, IntKind.max, IntKind.signed, IntKind.bits] at h
  exact ⟨n.toNat, by omega, by omega⟩
structure ScrE (W : World) (b o n : Nat) : Prop where mk :: (h : ∃ (kd fm nn : Nat → Int) (bs : Nat → Nat) (ng : Nat → Bool), Scr W b o n kd fm nn bs ng)
theorem IsOps.open {W : World} {a : Option Addr} {len : Nat} (h : IsOps W a len) (h0 : len ≠ 0) : ∃ b o, a = some ⟨b, o, none⟩ ∧ ScrE W b o len := by
  rcases h with h | ⟨⟨b, o, sp⟩, rfl, h⟩
  · exact absurd h h0
  have hsp : sp = none := by
    obtain ⟨p, _, _, _, _, hc, _⟩ := h 0 (by omega)
    have e : (⟨b, o, sp⟩ : Addr).add (0 * 5) = ⟨b, o, sp⟩ := by unfold Addr.add; rw [if_pos rfl]
    rw [e] at hc
    cases sp with
    | none => rfl
    | some s =>
      exfalso
      unfold World.cell? at hc
      simp at hc
      split at hc <;> cases hc
  subst hsp
  have ea : ∀ k, (⟨b, o, none⟩ : Addr).add k = ⟨b, o + k, none⟩ := by intro k; unfold Addr.add; split <;> simp <;> omega
  have h' : ∀ i, ∃ t : Int × Int × Int × Nat × Bool, i < len → W.cell? ⟨b, o + i * 5, none⟩ = some (.int .i64 t.1) ∧ W.cell? ⟨b, o + i * 5 + 1, none⟩ = some (.int .i64 t.2.1) ∧ W.cell? ⟨b, o + i * 5 + 2, none⟩ = some (.int .u64 (t.2.2.2.1 : Nat)) ∧ W.cell? ⟨b, o + i * 5 + 3, none⟩ = some (.bool t.2.2.2.2) ∧ W.cell? ⟨b, o + i * 5 + 4, none⟩ = some (.int .i64 t.2.2.1) ∧ (Lit.int .i64 t.2.1).wf = true ∧ t.2.2.2.1 < 18446744073709551616 ∧ (Lit.int .i64 t.2.2.1).wf = true := by
    intro i
    by_cases hi : i < len
    · obtain ⟨k, f, x, n, g, c1, c2, c3, c4, c5, f1, f2, f3⟩ := h i hi
      obtain ⟨x, rfl, hx⟩ := wf_u64' f2
      rw [ea] at c1 c2 c3 c4 c5
      exact ⟨(k, f, n, x, g), fun _ => ⟨c1, c2, c3, c4, c5, f1, hx, f3⟩⟩
    · exact ⟨(0, 0, 0, 0, false), fun h => absurd h hi⟩
  obtain ⟨t, ht⟩ := Classical.skolem.1 h'
  exact ⟨b, o, rfl, ⟨fun i => (t i).1, fun i => (t i).2.1, fun i => (t i).2.2.1, fun i => (t i).2.2.2.1, fun i => (t i).2.2.2.2, ⟨ht⟩⟩⟩
theorem Scr.below {W w : World} {b o n : Nat} {kd fm nn : Nat → Int} {bs : Nat → Nat} {ng : Nat → Bool} (h : Scr W b o n kd fm nn bs ng) (hn : 0 < n) (d : Below W.heap.size W w) : Scr w b o n kd fm nn bs ng := by
  have hb : b < W.heap.size := World.block_lt_of_cell? _ _ (h.h 0 hn).1
  refine ⟨fun i hi => ?_⟩
  obtain ⟨a1, a2, a3, a4, a5, r⟩ := h.h i hi
  exact ⟨by rw [d.cell (p := ⟨b, o + i * 5, none⟩) hb]; exact a1, by rw [d.cell (p := ⟨b, o + i * 5 + 1, none⟩) hb]; exact a2, by rw [d.cell (p := ⟨b, o + i * 5 + 2, none⟩) hb]; exact a3, by rw [d.cell (p := ⟨b, o + i * 5 + 3, none⟩) hb]; exact a4, by rw [d.cell (p := ⟨b, o + i * 5 + 4, none⟩) hb]; exact a5, r⟩
theorem all_any (I : World → Prop) (hI : ∀ w w' : World, I w → Below w.heap.size w w' → I w') (a : Option Addr) (len cap : Nat) (g m mc : Nat) (K : Nat → Int) (W w : World) (hs : IsOps W a len) (hd : Below W.heap.size W w) (hW : I w) (hn2 : len < 9000000000000000000) (hm0 : 0 < m) (hm : m < 20)
    (hk : ∀ j, j < m → w.cell? ⟨g, j, none⟩ = some (.int .i64 (K j))) (hp : ∀ j, j < m → PlaysOk I (K j)) : Calls Tryd.prog 29 #[.slice a len cap, .slice (some ⟨g, 0, none⟩) m mc] w (OnW w) := by
  by_cases h0 : len = 0
  · subst h0; exact all_none _ _ _ _
  obtain ⟨b, o, rfl, kd, fm, nn, bs, ng, h⟩ := hs.open h0
  exact all_walk I hI b o len cap kd fm nn bs ng g m mc K w hW (by omega) hn2 hm0 hm (h.below (by omega) hd) hk hp
end Go.Proofs.YthpnmkclboennaaDoor.BinAll
