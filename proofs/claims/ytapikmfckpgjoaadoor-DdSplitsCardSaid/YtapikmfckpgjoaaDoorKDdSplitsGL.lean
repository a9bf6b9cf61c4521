/- slices.Clone and dyadic.twin on rows of limbs of any length. Conditions: rows of less than 2^40 limbs. nat.Shl of nought; nat.Shr of all limbs; nat.Norm. Conditions: at most 8192 limbs. -/
import Derived.Test.YtapikmfckpgjoaaDoorKDdSplitsGJ
section
namespace Go.Proofs.YtapikmfckpgjoaaDoor.GK
open Go.RowKit Go.Proofs.YtapikmfckpgjoaaDoorW.PrintWords Go.Proofs.YtapikmfckpgjoaaDoorW.PrintMore Go.Proofs.YtapikmfckpgjoaaDoorW.PrintLast Go.Proofs.YtapikmfckpgjoaaDoor.Num Go.Proofs.YtapikmfckpgjoaaDoor.Ref Go.Proofs.YtapikmfckpgjoaaDoor.GBase Go.Proofs.YtapikmfckpgjoaaDoor.GTab Go.Proofs.YtapikmfckpgjoaaDoor.GTh Go.Proofs.YtapikmfckpgjoaaDoor.GA Go.Proofs.YtapikmfckpgjoaaDoor.GB Go.Proofs.YtapikmfckpgjoaaDoor.GC Go.Proofs.YtapikmfckpgjoaaDoor.GG Go.Proofs.YtapikmfckpgjoaaDoor.GH Go.Proofs.YtapikmfckpgjoaaDoor.GI Go.Proofs.YtapikmfckpgjoaaDoor.GJ
theorem At.set {w : World} {G o n x : Nat} (h : At w G o n x) {g : Nat} (hg : G ≠ g) (k : Nat) (v : Value) : At (w.setCell ⟨g, k, none⟩ v) G o n x :=
 ⟨h.big, fun j hj => (World.cell?_setCell_other _ _ _ _ (fun e => hg (congrArg Addr.block e).symm)).trans (h.cell j hj)⟩
theorem Rw.set {w : World} {A : Option Addr} {n c x : Nat} (h : Rw w A n c x) {g : Nat} (hg : ∀ G o, A = some ⟨G, o, none⟩ → G ≠ g) (k : Nat) (v : Value) : Rw (w.setCell ⟨g, k, none⟩ v) A n c x :=
 ⟨h.cap, h.row.imp id (fun ⟨G, o, e, q⟩ => ⟨G, o, e, At.set q (hg G o e) k v⟩)⟩
theorem eq_nil_c (c : Nat) (w : World) : Sem.run Tryd.prog (binOp BinOp.eql 32 (Value.slice none 0 c) (Value.slice none 0 0)) w = .ok (.bool true) w := by kernel_rfl
theorem clone_none (c : Nat) (w : World) : Calls Tryd.prog 81 #[.slice none 0 c] w fun e w' => e = .returned (.slice none 0 0) ∧ Below w.heap.size w w' := by
 go_enter Tryd.func81, Tryd.ntmps81
 go_wp2_with (rw [eq_nil_c]; go_simp)
 go_ret
 exact ⟨rfl, Below.refl _ _⟩
set_option maxRecDepth 100000 in
theorem clone_some (ad : Addr) (n c : Nat) (l : List Value) (w : World) (hl : l.length = n) (h1 : ∀ u ∈ l, u.oneCell' = true) (h : ∀ (j : Nat) (u : Value), l[j]? = some u → w.cell? (ad.add j) = some u) (hn : n < 1099511627776) : Calls Tryd.prog 81 #[.slice (some ad) n c] w fun e w' => ∃ v, e = .returned v ∧ w'.ownsRow w.heap.size 22 1 v n l ∧ Below w.heap.size w w' := by
 obtain ⟨i0, h1', h2, h3, h4⟩ := info_parts u64_info
 have HI := Lib.hid (And.intro h1' (And.intro h2 (And.intro h3 h4)))
 have H : ∀ (j : Nat) (u : Value), l[j]? = some u → (w.alloc (Obj.cells #[] 22)).cell? (ad.add j) = some u := fun j u e => by
  rw [(box w (Obj.cells #[] 22)).cell (World.block_lt_of_cell? _ _ (h j u e))]; exact h j u e
 have HX := Lib.hid (And.intro H (And.intro h1 (And.intro hl hn)))
 have HO := Lib.hid (World.ownsRow_made (e := 22) (base := w.heap.size) (size := 1) w #[] 0 (Nat.le_refl _) (Nat.zero_le _) rfl)
 clear h1' h2 h3 h4 h hn H hl h1
 go_enter Tryd.func81, Tryd.ntmps81
 go_wp2_with (first | (rw [eq_nil_1]; go_simp) | (at_builtin; refine wpList_append_own _ rfl (.tmp 5) (.tmp 6) 32 rfl w.heap.size 22 i0 (.int .u64 0) 1 8 Tryd.underlying32 HI.out.1 HI.out.2.1 HI.out.2.2.1 HI.out.2.2.2 rfl (by decide) (.slice (some ⟨w.heap.size, 0, none⟩) 0 0) _ _ rfl HO.out ad n c l rfl (by rw [HX.out.2.2.1, Nat.mul_one]) HX.out.1 HX.out.2.1 (by have := HX.out.2.2.2; unfold maxLen; omega) (by have := HX.out.2.2.2; omega) (by simp) ?_))
 intro u' w1 hown1 hg1 hnn
 have hbel := Below.grown (box w (Obj.cells #[] 22)) hg1 (by simp) (by
  intro k hk
  simp [Value.ownBlock] at hk
  omega)
 have HR := Lib.hid (And.intro (show w1.ownsRow w.heap.size 22 1 u' n l by simpa using hown1) hbel)
 clear hown1 hg1 hbel hnn
 go_wp2_with fail
 go_ret
 exact ⟨_, rfl, HR.out.1, HR.out.2⟩
end Go.Proofs.YtapikmfckpgjoaaDoor.GK
end
section
namespace Go.Proofs.YtapikmfckpgjoaaDoor.GL
open Go.RowKit Go.Proofs.YtapikmfckpgjoaaDoorW.PrintWords Go.Proofs.YtapikmfckpgjoaaDoorW.PrintMore Go.Proofs.YtapikmfckpgjoaaDoorW.PrintLast Go.Proofs.YtapikmfckpgjoaaDoor.Num Go.Proofs.YtapikmfckpgjoaaDoor.Ref Go.Proofs.YtapikmfckpgjoaaDoor.GBase Go.Proofs.YtapikmfckpgjoaaDoor.GTab Go.Proofs.YtapikmfckpgjoaaDoor.GTh Go.Proofs.YtapikmfckpgjoaaDoor.GA Go.Proofs.YtapikmfckpgjoaaDoor.GB Go.Proofs.YtapikmfckpgjoaaDoor.GC Go.Proofs.YtapikmfckpgjoaaDoor.GG Go.Proofs.YtapikmfckpgjoaaDoor.GH Go.Proofs.YtapikmfckpgjoaaDoor.GI Go.Proofs.YtapikmfckpgjoaaDoor.GJ Go.Proofs.YtapikmfckpgjoaaDoor.GK
theorem shl_zero (w : World) (A : Option Addr) (c n : Nat) : Calls Tryd.prog 85 #[.slice A 0 c, .int .i64 (n : Int)] w fun e w' => e = .returned (.tuple #[.slice none 0 0, .int .i64 0]) ∧ w' = w := by
 have HF := form_any w A c 0 ⟨Nat.zero_le _, .inl ⟨trivial, rfl, trivial, rfl⟩⟩ (by decide)
 rw [nl_zero] at HF
 have HF := Lib.hid HF
 have q0 : decide ((n : Int) < 0) = false := decide_eq_false (by omega)
 go_enter Tryd.func85, Tryd.ntmps85
 go_wp2_with fail
 refine HF.out.mono ?_
 rintro e w1 ⟨rfl, rfl⟩
 go_wp2_with fail
 go_ret2
 exact ⟨rfl, rfl⟩
set_option maxRecDepth 100000 in
theorem shr_far (w : World) (A : Option Addr) (c x n : Nat) (h : Nt w A c x) (hl : nl x ≤ 8192) (hlim : nl x ≤ n / 64) (hlim2 : n < 9223372036854775808) : Calls Tryd.prog 89 #[.slice A (nl x) c, .int .i64 (n : Int)] w fun e w' => e = .returned (.tuple #[.slice none 0 0, .int .i64 0]) ∧ w' = w := by
 have HF := Lib.hid (form_any w A c x h hl)
 have q0 : decide ((n : Int) < 0) = false := decide_eq_false (by omega)
 obtain ⟨p, hp⟩ : ∃ p, p = n / 64 := ⟨_, rfl⟩
 obtain ⟨k, hk⟩ : ∃ k, k = n % 64 := ⟨_, rfl⟩
 have q1 : (n : Int) / 64 = (p : Int) := by omega
 have q4 : (n : Int) % 64 = (k : Int) := by omega
 have q5 : IntKind.i64.wrap (k : Int) = (k : Int) := IntWalk.i64_in _ (by omega)
 have q8 : wrap64 (k : Int) = (k : Int) := by rw [w64 (by omega) (by omega)]
 by_cases hz : p < 9223372036854775808
 case neg => exact absurd hlim2 (by omega)
 have q6 : IntKind.i64.wrap (p : Int) = (p : Int) := IntWalk.i64_in _ (by omega)
 have q7 : wrap64 (p : Int) = (p : Int) := by rw [w64 (by omega) (by omega)]
 generalize nl x = s at *
 have q2 : decide ((s : Int) ≤ (p : Int)) = true := decide_eq_true (by omega)
 have q3 : decide (s ≤ p) = true := decide_eq_true (by omega)
 clear h hl hlim hlim2 hp hk hz
 go_enter Tryd.func89, Tryd.ntmps89
 go_wp2_with fail
 refine HF.out.mono ?_
 rintro e w1 ⟨rfl, rfl⟩
 go_wp2_with fail
 go_ret2
 exact ⟨rfl, rfl⟩
end Go.Proofs.YtapikmfckpgjoaaDoor.GL
end
