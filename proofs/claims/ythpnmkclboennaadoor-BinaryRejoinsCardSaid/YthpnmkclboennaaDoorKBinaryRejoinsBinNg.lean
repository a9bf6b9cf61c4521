/- slices.Clone on one word; the program's twin and Neg on numbers of one word. Conditions: the number lies in memory in form. -/
import Derived.Test.YthpnmkclboennaaDoorKBinaryRejoinsPNegx0
import Derived.Test.YthpnmkclboennaaDoorKBinaryRejoinsPNegx1
import Derived.OwnWalk
import Derived.Laws.OwnMore
namespace Go.Proofs.YthpnmkclboennaaDoor.BinNg
open Go.RowKit Go.Proofs.YthpnmkclboennaaDoorW.PrintWords Go.Proofs.YthpnmkclboennaaDoorW.PrintMore Go.Proofs.YthpnmkclboennaaDoorW.PrintLast Go.Proofs.YthpnmkclboennaaDoor.Num Go.Proofs.YthpnmkclboennaaDoor.PLib Go.Proofs.YthpnmkclboennaaDoor.Ref Go.Proofs.YthpnmkclboennaaDoor.BinLaw Go.Proofs.YthpnmkclboennaaDoor.BinA Go.Proofs.YthpnmkclboennaaDoor.BinO2 Go.Proofs.YthpnmkclboennaaDoor.BinF Go.Proofs.YthpnmkclboennaaDoor.BinG Go.Proofs.YthpnmkclboennaaDoor.BinW Go.Proofs.YthpnmkclboennaaDoor.BinTab Go.Proofs.YthpnmkclboennaaDoor.BinM Go.Proofs.YthpnmkclboennaaDoor.BinM2 Go.Proofs.YthpnmkclboennaaDoor.BinV1 Go.Proofs.YthpnmkclboennaaDoor.BinS Go.Proofs.YthpnmkclboennaaDoor.BinS2
theorem u64_info : (Tryd.prog.info? 23).map (fun i => (i.zero, i.size, i.bytes)) = some (some (.int .u64 0), 1, 8) := by kernel_rfl
theorem eq_nil_0 (w : World) : Sem.run Tryd.prog (binOp BinOp.eql 25 (Value.slice none 0 0) (Value.slice none 0 0)) w = .ok (.bool true) w := by kernel_rfl
theorem eq_nil_1 (a : Addr) (n c : Nat) (w : World) : Sem.run Tryd.prog (binOp BinOp.eql 25 (Value.slice (some a) n c) (Value.slice none 0 0)) w = .ok (.bool false) w := by kernel_rfl
theorem clone_0 (w : World) : Calls Tryd.prog 84 #[.slice none 0 0] w fun e w' => e = .returned (.slice none 0 0) ∧ Below w.heap.size w w' := by
  go_enter Tryd.func84, Tryd.ntmps84
  go_wp2_with (rw [eq_nil_0]; go_simp)
  go_ret
  exact ⟨rfl, Below.refl _ _⟩
theorem cells_1 {w : World} {G o n : Nat} (h : At1 w G o n) : ∀ (j : Nat) (u : Value), [Value.int IntKind.u64 (n : Int)][j]? = some u → w.cell? ((⟨G, o, none⟩ : Addr).add j) = some u := by
  intro j u hj
  cases j with
  | zero =>
    have e : (⟨G, o, none⟩ : Addr).add 0 = ⟨G, o, none⟩ := by unfold Addr.add; rw [if_pos rfl]
    rw [e, h.cell]
    simpa using hj
  | succ j => simp at hj
theorem one_1 (n : Nat) : ∀ u ∈ [Value.int IntKind.u64 (n : Int)], u.oneCell' = true := by
  intro u hu
  obtain rfl := List.mem_singleton.1 hu
  rfl
set_option maxRecDepth 100000 in
theorem clone_1 (G o n c : Nat) (w : World) (h : At1 w G o n) : Calls Tryd.prog 84 #[.slice (some ⟨G, o, none⟩) 1 c] w fun e w' => (∃ G' c', e = .returned (.slice (some ⟨G', 0, none⟩) 1 c') ∧ At1 w' G' 0 n ∧ 1 ≤ c' ∧ w.heap.size ≤ G') ∧ Below w.heap.size w w' := by
  obtain ⟨i0, h1, h2, h3, h4⟩ := info_parts u64_info
  have HI := Lib.hid (And.intro h1 (And.intro h2 (And.intro h3 h4)))
  have H := Lib.hid (h.next (box w (Obj.cells #[] 23)))
  have HO := Lib.hid (World.ownsRow_made (e := 23) (base := w.heap.size) (size := 1) w #[] 0 (Nat.le_refl _) (Nat.zero_le _) rfl)
  clear h1 h2 h3 h4 h
  go_enter Tryd.func84, Tryd.ntmps84
  go_wp2_with (first | (rw [eq_nil_1]; go_simp) | (at_builtin; refine wpList_append_own _ rfl (.tmp 5) (.tmp 6) 25 rfl w.heap.size 23 i0 (.int .u64 0) 1 8 Tryd.underlying25 HI.out.1 HI.out.2.1 HI.out.2.2.1 HI.out.2.2.2 rfl (by decide) (.slice (some ⟨w.heap.size, 0, none⟩) 0 0) _ _ rfl HO.out ⟨G, o, none⟩ 1 c [.int .u64 (n : Int)] rfl rfl (cells_1 H.out) (one_1 n) (by unfold maxLen; omega) (by omega) (by simp) ?_))
  intro u' w1 hown1 hg1 _
  have hcell := fun (g : Nat) (cap : Nat) (e : u' = .slice (some ⟨g, 0, none⟩) 1 cap) => (show w1.ownsRow w.heap.size 23 1 (.slice (some ⟨g, 0, none⟩) 1 cap) 1 [.int .u64 (n : Int)] from e ▸ hown1).cellAt 0 (by simp)
  obtain ⟨G', c', rfl, hG, hcap⟩ : ∃ G' c', u' = .slice (some ⟨G', 0, none⟩) 1 c' ∧ w.heap.size ≤ G' ∧ 1 ≤ c' := by
    rcases hown1.2 with ⟨_, h0⟩ | ⟨G', capk, _, e1, h1, _, h2, _⟩
    · simp at h0
    · exact ⟨G', capk, e1, h1, h2⟩
  have hcell := hcell _ _ rfl
  have hbel := Below.grown (box w (Obj.cells #[] 23)) hg1 (by simp) (by
    intro k hk
    simp [Value.ownBlock] at hk
    omega)
  have HR := Lib.hid (And.intro hcell (And.intro hcap (And.intro hG hbel)))
  clear hown1 hg1 hcell hcap hG hbel
  go_wp2_with fail
  go_ret
  exact ⟨⟨_, _, rfl, ⟨by simpa using HR.out.1⟩, HR.out.2.1, HR.out.2.2.1⟩, HR.out.2.2.2⟩
end Go.Proofs.YthpnmkclboennaaDoor.BinNg
