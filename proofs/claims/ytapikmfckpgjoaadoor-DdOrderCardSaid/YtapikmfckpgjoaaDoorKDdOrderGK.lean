/- slices.Clone and dyadic.twin on rows of limbs of any length. Conditions: rows of less than 2^40 limbs. -/
import Derived.Test.YtapikmfckpgjoaaDoorKDdOrderGJ
namespace Go.Proofs.YtapikmfckpgjoaaDoor.GK
open Go.RowKit Go.Proofs.YtapikmfckpgjoaaDoorW.PrintWords Go.Proofs.YtapikmfckpgjoaaDoorW.PrintMore Go.Proofs.YtapikmfckpgjoaaDoorW.PrintLast Go.Proofs.YtapikmfckpgjoaaDoor.Num Go.Proofs.YtapikmfckpgjoaaDoor.Ref Go.Proofs.YtapikmfckpgjoaaDoor.GBase Go.Proofs.YtapikmfckpgjoaaDoor.GTab Go.Proofs.YtapikmfckpgjoaaDoor.GTh Go.Proofs.YtapikmfckpgjoaaDoor.GA Go.Proofs.YtapikmfckpgjoaaDoor.GB Go.Proofs.YtapikmfckpgjoaaDoor.GC Go.Proofs.YtapikmfckpgjoaaDoor.GG Go.Proofs.YtapikmfckpgjoaaDoor.GH Go.Proofs.YtapikmfckpgjoaaDoor.GI Go.Proofs.YtapikmfckpgjoaaDoor.GJ
theorem At.set {w : World} {G o n x : Nat} (h : At w G o n x) {g : Nat} (hg : G ≠ g) (k : Nat) (v : Value) : At (w.setCell ⟨g, k, none⟩ v) G o n x :=
 ⟨h.big, fun j hj => (World.cell?_setCell_other _ _ _ _ (fun e => hg (congrArg Addr.block e).symm)).trans (h.cell j hj)⟩
theorem Rw.set {w : World} {A : Option Addr} {n c x : Nat} (h : Rw w A n c x) {g : Nat} (hg : ∀ G o, A = some ⟨G, o, none⟩ → G ≠ g) (k : Nat) (v : Value) : Rw (w.setCell ⟨g, k, none⟩ v) A n c x :=
 ⟨h.cap, h.row.imp id (fun ⟨G, o, e, q⟩ => ⟨G, o, e, At.set q (hg G o e) k v⟩)⟩
theorem eq_nil_c (c : Nat) (w : World) : Sem.run Tryd.prog (binOp BinOp.eql 32 (Value.slice none 0 c) (Value.slice none 0 0)) w = .ok (.bool true) w := by kernel_rfl
theorem clone_none (c : Nat) (w : World) : Calls Tryd.prog 81 #[.slice none 0 c] w fun e w' => e = .returned (.slice none 0 0) ∧ Below w.heap.size w w' := by
 go_enter Tryd.func81, Tryd.ntmps81
 go_wp2_with (rw [eq_nil_c]; go_simp)
 go_ret
 exact ⟨rfl, Below.refl _ _⟩
set_option maxRecDepth 100000 in
theorem clone_some (ad : Addr) (n c : Nat) (l : List Value) (w : World) (hl : l.length = n) (h1 : ∀ u ∈ l, u.oneCell' = true) (h : ∀ (j : Nat) (u : Value), l[j]? = some u → w.cell? (ad.add j) = some u) (hn : n < 1099511627776) : Calls Tryd.prog 81 #[.slice (some ad) n c] w fun e w' => ∃ v, e = .returned v ∧ w'.ownsRow w.heap.size 22 1 v n l ∧ Below w.heap.size w w' := by
 obtain ⟨i0, h1', h2, h3, h4⟩ := info_parts u64_info
 have HI := Lib.hid (And.intro h1' (And.intro h2 (And.intro h3 h4)))
 have H : ∀ (j : Nat) (u : Value), l[j]? = some u → (w.alloc (Obj.cells #[] 22)).cell? (ad.add j) = some u := fun j u e => by
  rw [(box w (Obj.cells #[] 22)).cell (World.block_lt_of_cell? _ _ (h j u e))]; exact h j u e
 have HX := Lib.hid (And.intro H (And.intro h1 (And.intro hl hn)))
 have HO := Lib.hid (World.ownsRow_made (e := 22) (base := w.heap.size) (size := 1) w #[] 0 (Nat.le_refl _) (Nat.zero_le _) rfl)
 clear h1' h2 h3 h4 h hn H hl h1
 go_enter Tryd.func81, Tryd.ntmps81
 go_wp2_with (first | (rw [eq_nil_1]; go_simp) | (at_builtin; refine wpList_append_own _ rfl (.tmp 5) (.tmp 6) 32 rfl w.heap.size 22 i0 (.int .u64 0) 1 8 Tryd.underlying32 HI.out.1 HI.out.2.1 HI.out.2.2.1 HI.out.2.2.2 rfl (by decide) (.slice (some ⟨w.heap.size, 0, none⟩) 0 0) _ _ rfl HO.out ad n c l rfl (by rw [HX.out.2.2.1, Nat.mul_one]) HX.out.1 HX.out.2.1 (by have := HX.out.2.2.2; unfold maxLen; omega) (by have := HX.out.2.2.2; omega) (by simp) ?_))
 intro u' w1 hown1 hg1 hnn
 have hbel := Below.grown (box w (Obj.cells #[] 22)) hg1 (by simp) (by
  intro k hk
  simp [Value.ownBlock] at hk
  omega)
 have HR := Lib.hid (And.intro (show w1.ownsRow w.heap.size 22 1 u' n l by simpa using hown1) hbel)
 clear hown1 hg1 hbel hnn
 go_wp2_with fail
 go_ret
 exact ⟨_, rfl, HR.out.1, HR.out.2⟩
end Go.Proofs.YtapikmfckpgjoaaDoor.GK
