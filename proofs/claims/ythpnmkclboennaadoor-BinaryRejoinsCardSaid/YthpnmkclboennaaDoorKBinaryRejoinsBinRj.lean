/- Split and Join undo one another; the sign's bit turned; Make of any empty list. Plain Lean but for Make. Conditions: finite words of the format. -/
import Derived.Test.YthpnmkclboennaaDoorKBinaryRejoinsBinNg3
import Derived.Test.YthpnmkclboennaaDoorKBinaryRejoinsBinWL
import Derived.Test.YthpnmkclboennaaDoorKBinaryRejoinsBinaryMidsW
import Derived.Test.YthpnmkclboennaaDoorKBinaryRejoinsBinT
import Derived.Test.YthpnmkclboennaaDoorKBinaryRejoinsPLibx0
import Derived.Test.YthpnmkclboennaaDoorKBinaryRejoinsPLibx2
import Derived.Test.YthpnmkclboennaaDoorKBinaryRejoinsPLibx9
import Derived.Test.YthpnmkclboennaaDoorKBinaryRejoinsPLibx3
import Derived.Test.YthpnmkclboennaaDoorKBinaryRejoinsBinAwake
import Derived.Test.YthpnmkclboennaaDoorKBinaryRejoinsBinN
namespace Go.Proofs.YthpnmkclboennaaDoor.BinRj
open Go.RowKit Go.Proofs.YthpnmkclboennaaDoorW.PrintWords Go.Proofs.YthpnmkclboennaaDoorW.PrintMore Go.Proofs.YthpnmkclboennaaDoorW.PrintLast Go.Proofs.YthpnmkclboennaaDoor.Num Go.Proofs.YthpnmkclboennaaDoor.Ref Go.Proofs.YthpnmkclboennaaDoor.BinLaw Go.Proofs.YthpnmkclboennaaDoor.BinA Go.Proofs.YthpnmkclboennaaDoor.BinO2 Go.Proofs.YthpnmkclboennaaDoor.BinF Go.Proofs.YthpnmkclboennaaDoor.BinG Go.Proofs.YthpnmkclboennaaDoor.BinW Go.Proofs.YthpnmkclboennaaDoor.BinW2 Go.Proofs.YthpnmkclboennaaDoor.BinTab Go.Proofs.YthpnmkclboennaaDoor.BinM Go.Proofs.YthpnmkclboennaaDoor.BinM2 Go.Proofs.YthpnmkclboennaaDoor.BinV1 Go.Proofs.YthpnmkclboennaaDoor.BinS Go.Proofs.YthpnmkclboennaaDoor.BinS2 Go.Proofs.YthpnmkclboennaaDoor.BinJ Go.Proofs.YthpnmkclboennaaDoor.BinJ2 Go.Proofs.YthpnmkclboennaaDoor.BinJ4 Go.Proofs.YthpnmkclboennaaDoor.BinWL Go.Proofs.YthpnmkclboennaaDoor.BinNg Go.Proofs.YthpnmkclboennaaDoor.BinNg2 Go.Proofs.YthpnmkclboennaaDoor.BinNg3
theorem Split_ok {f : Int} {F : Fmt} (h : Fm f F) (b : Nat) (h2 : b < 2 * F.sg) (hi : b % F.sg < F.inf) (w : World) : Calls Tryd.prog 23 #[.int .i64 f, .int .u64 b] w fun e w' => e = .returned (.tuple #[.bool (decide (F.sg ≤ b)), .int .u64 (mgF F (b % F.sg) : Nat), .int .i64 (xpF F (b % F.sg)), .int .i64 0]) ∧ Below w.heap.size w w' := by
  have hs : b % F.sg < F.sg := by have := h.sz; omega
  have hE : Ev (fun k => PLib.binary_Split.f k f (b : Int)) (decide (F.sg ≤ b), ((mgF F (b % F.sg) : Nat) : Int), xpF F (b % F.sg), 0) := by
    unfold PLib.binary_Split.f
    refine Ev.bind (finite_ok h b h2 hi) ?_
    refine Ev.congr (fun k => if_pos rfl) ?_
    refine Ev.congr (f := fun _ => some _) (fun k => ?_) (Ev.now _)
    show (PLib.binary_shape_parts.f _ _ _ _ ((b % F.sg : Nat) : Int)).bind _ = _
    rw [parts_f h _ hs]
    rfl
  obtain ⟨k, hk⟩ := hE.rounds
  exact PLib.binary_Split.calls k _ _ _ _ _ _ w hk
theorem Split_err {f er s0 s1 s2 s3 : Int} (b : Nat) (h : Ev (fun k => PLib.binary_finite.f k f (b : Int)) (s0, s1, s2, s3, false, 0, er)) (h0 : er ≠ 0) (w : World) : Calls Tryd.prog 23 #[.int .i64 f, .int .u64 b] w fun e w' => e = .returned (.tuple #[.bool false, .int .u64 0, .int .i64 0, .int .i64 er]) ∧ Below w.heap.size w w' := by
  have hE : Ev (fun k => PLib.binary_Split.f k f (b : Int)) (false, 0, 0, er) := by
    unfold PLib.binary_Split.f
    refine Ev.bind h ?_
    exact Ev.congr (fun k => if_neg h0) (Ev.now _)
  obtain ⟨k, hk⟩ := hE.rounds
  exact PLib.binary_Split.calls k _ _ _ _ _ _ w hk
theorem sz_n {f : Int} {F : Fmt} (h : Fm f F) {s : Nat} (hs : s ≠ 0) : szF F (nF F s) = s := by
  have hP := fm_man h
  obtain ⟨h1, _⟩ := fm_hd2 h
  have hh := (fm_hd h).1
  have hm0 := mg_zero h hs
  have hdm := Nat.div_add_mod s (hdF F)
  have hr : s % hdF F < hdF F := Nat.mod_lt _ hh
  unfold szF nF
  rw [bl_mul _ _ hm0]
  by_cases c : s / hdF F = 0
  · have e1 : mgF F s = s := by unfold mgF; rw [if_pos c]; rw [c] at hdm; omega
    have e2 : dF F s = 0 := by unfold dF; rw [c]
    have hlt : s < 2^(F.man - 1) := by rw [← h1]; rw [c] at hdm; omega
    have hb : bl s ≤ F.man - 1 := bl_le_of_lt hlt
    rw [e1, e2, if_pos (by omega)]
    simp
  · have e1 : mgF F s = hdF F + s % hdF F := by unfold mgF; rw [if_neg c]
    have e2 : dF F s = s / hdF F - 1 := rfl
    have e3 : bl (mgF F s) = F.man := by
      refine bl_of ?_ (.inr ?_)
      · rw [e1]
        have : 2^F.man = 2^(F.man - 1) + 2^(F.man - 1) := by
          have : F.man = F.man - 1 + 1 := by omega
          conv => lhs; rw [this, Nat.pow_succ]
          omega
        rw [this, ← h1]; omega
      · rw [e1, ← h1]; omega
    rw [e3, if_neg (by omega), show F.man + dF F s - F.man = dF F s by omega, Nat.mul_div_cancel _ (Nat.two_pow_pos _), e1, e2]
    generalize s / hdF F = q at *
    generalize s % hdF F = r at *
    generalize hdF F = H at *
    obtain ⟨p, rfl⟩ : ∃ p, q = p + 1 := ⟨q - 1, by omega⟩
    rw [Nat.add_sub_cancel]
    rw [Nat.mul_add, Nat.mul_comm H p] at hdm
    omega
theorem join_split {f : Int} {F : Fmt} (h : Fm f F) {b : Nat} (h2 : b < 2 * F.sg) (hi : b % F.sg < F.inf) : jnF F (decide (F.sg ≤ b)) (mgF F (b % F.sg)) (xpF F (b % F.sg)) = (b, 0) := by
  have hz := h.sz
  have hbb : b = (if F.sg ≤ b then F.sg + b % F.sg else b % F.sg) := by
    by_cases c : F.sg ≤ b
    · rw [if_pos c]
      have := Nat.div_add_mod b F.sg
      have hq : b / F.sg = 1 := by
        have h1 : 1 ≤ b / F.sg := (Nat.le_div_iff_mul_le (by omega)).2 (by omega)
        have h3 : b / F.sg < 2 := (Nat.div_lt_iff_lt_mul (by omega)).2 (by omega)
        omega
      rw [hq] at this; omega
    · rw [if_neg c, Nat.mod_eq_of_lt (by omega)]
  by_cases hs : b % F.sg = 0
  · rw [hs] at hbb ⊢
    have e0 : mgF F 0 = 0 := by unfold mgF; simp
    rw [e0]
    unfold jnF
    rw [if_pos rfl]
    by_cases c : F.sg ≤ b
    · rw [if_pos (decide_eq_true c)]
      rw [if_pos c] at hbb
      rw [hbb]; rfl
    · rw [if_neg (by simpa using c)]
      rw [if_neg c] at hbb
      rw [hbb]
  · have hm0 := mg_zero h hs
    have e53 : (2 : Nat)^53 = 9007199254740992 := by decide
    have hm53 := mg_lt53 h (b % F.sg)
    rw [e53] at hm53
    have hm64 : mgF F (b % F.sg) < 18446744073709551616 := by omega
    have hlow := fm_low h
    have hxd := xp_d F (b % F.sg)
    have hman : mgF F (b % F.sg) / 2^(Lib.ctz 64 (mgF F (b % F.sg))) * 2^(Lib.ctz 64 (mgF F (b % F.sg))) = mgF F (b % F.sg) := by
      obtain ⟨r, hr, _⟩ := ctz_spec hm0 hm64
      exact Nat.div_mul_cancel ⟨_, hr⟩
    have hbl : bl (mgF F (b % F.sg) / 2^(Lib.ctz 64 (mgF F (b % F.sg)))) ≤ F.man := by
      have hhd := (fm_hd2 h).1
      have hlt := mg_lt h (b % F.sg)
      have hP := fm_man h
      refine bl_le_of_lt (Nat.lt_of_le_of_lt (Nat.div_le_self _ _) ?_)
      have : 2^F.man = 2 * 2^(F.man - 1) := by
        have : F.man = F.man - 1 + 1 := by omega
        conv => lhs; rw [this, Nat.pow_succ]
        omega
      rw [this, ← hhd]; exact hlt
    have hd : (xpF F (b % F.sg) + (Lib.ctz 64 (mgF F (b % F.sg)) : Nat) - F.low).toNat = Lib.ctz 64 (mgF F (b % F.sg)) + dF F (b % F.sg) := by omega
    have hN : mgF F (b % F.sg) / 2^(Lib.ctz 64 (mgF F (b % F.sg))) * 2^(Lib.ctz 64 (mgF F (b % F.sg)) + dF F (b % F.sg)) = nF F (b % F.sg) := by
      rw [Nat.pow_add, ← Nat.mul_assoc, hman]; rfl
    unfold jnF
    rw [if_neg hm0, if_neg (by omega), hd, hN, sz_n h hs, if_neg (by omega)]
    by_cases c : F.sg ≤ b
    · rw [if_pos (decide_eq_true c)]
      rw [if_pos c] at hbb
      rw [← hbb]
    · rw [if_neg (by simpa using c)]
      rw [if_neg c] at hbb
      rw [← hbb]
def flip (F : Fmt) (b : Nat) : Nat := if F.sg ≤ b then b - F.sg else b + F.sg
theorem flip_facts {f : Int} {F : Fmt} (h : Fm f F) {b : Nat} (h2 : b < 2 * F.sg) : flip F b < 2 * F.sg ∧ flip F b % F.sg = b % F.sg ∧ decide (F.sg ≤ flip F b) = !decide (F.sg ≤ b) := by
  have hz := h.sz
  unfold flip
  by_cases c : F.sg ≤ b
  · rw [if_pos c]
    refine ⟨by omega, (Nat.mod_eq_sub_mod c).symm, ?_⟩
    rw [decide_eq_true c, decide_eq_false (by omega)]; rfl
  · rw [if_neg c]
    refine ⟨by omega, Nat.add_mod_right _ _, ?_⟩
    rw [decide_eq_false c, decide_eq_true (by omega)]; rfl
theorem xor_pow (k b : Nat) (hb : b < 2 * 2^k) : b ^^^ 2^k = if 2^k ≤ b then b - 2^k else b + 2^k := by
  have h1 : (b ^^^ 2^k) % 2^k = b % 2^k := by rw [Nat.xor_mod_two_pow, Nat.mod_self, Nat.xor_zero]
  have h2 : (b ^^^ 2^k) / 2^k = b / 2^k ^^^ 1 := by rw [Nat.xor_div_two_pow, Nat.div_self (Nat.two_pow_pos k)]
  have h3 := Nat.div_add_mod (b ^^^ 2^k) (2^k)
  have h4 := Nat.div_add_mod b (2^k)
  rw [h1, h2] at h3
  rcases one_of hb with c | c
  · have : ¬ 2^k ≤ b := fun x => by have := Nat.div_pos x (Nat.two_pow_pos k); omega
    rw [if_neg this, ← h3, c]
    rw [c] at h4
    have e : (0 ^^^ 1 : Nat) = 1 := by decide
    rw [e]; omega
  · have : 2^k ≤ b := by
      by_cases x : 2^k ≤ b
      · exact x
      · rw [Nat.div_eq_of_lt (by omega)] at c; omega
    rw [if_pos this, ← h3, c]
    rw [c] at h4
    have e : (1 ^^^ 1 : Nat) = 0 := by decide
    rw [e]; omega
theorem xor_sg {f : Int} {F : Fmt} (h : Fm f F) {b : Nat} (h2 : b < 2 * F.sg) (h64 : b < 18446744073709551616) : bits .xor .u64 (b : Int) ((F.sg : Nat) : Int) = ((flip F b : Nat) : Int) := by
  have hz := h.sz
  rw [u64_xor_nat b F.sg h64 (by omega)]
  unfold flip
  rcases h with ⟨_, rfl⟩ | ⟨_, rfl⟩
  · have e : fS.sg = 2^31 := by decide
    rw [e] at h2 ⊢
    rw [xor_pow 31 b h2]
  · have e : fD.sg = 2^63 := by decide
    rw [e] at h2 ⊢
    rw [xor_pow 63 b h2]
theorem sign_call {f : Int} {F : Fmt} (h : Fm f F) (w : World) : Calls Tryd.prog 25 #[.int .i64 f] w fun e w' => e = .returned (.int .u64 (F.sg : Nat)) ∧ Below w.heap.size w w' := by
  have e : PFin.gnomonlaw07_sign.f f = some ((F.sg : Nat) : Int) := by
    unfold PFin.gnomonlaw07_sign.f
    rcases h with ⟨rfl, rfl⟩ | ⟨rfl, rfl⟩ <;> rfl
  exact (PFin.gnomonlaw07_sign.calls _ _ w e).mono fun _ _ ⟨a, b⟩ => ⟨a, b.below⟩
set_option maxRecDepth 100000 in
theorem nform_g (A : Option Addr) (c : Nat) (w : World) : Calls Tryd.prog 56 #[.agg #[.bool false, .slice A 0 c]] w fun e w' => e = .returned (.bool true) ∧ Below w.heap.size w w' := by
  have e : PNeg.num_Form.f false [] = some true := by decide +kernel
  have hr : Kd.C (Kd.int .u64) w A ([] : List Int).length [] := ⟨rfl, by decide, fun h => absurd h (by decide)⟩
  exact PNeg.num_Form.calls false A c [] true w hr (Nat.zero_le _) e
set_option maxRecDepth 100000 in
theorem make_g (A : Option Addr) (c : Nat) (x : Int) (w : World) : Calls Tryd.prog 26 #[.agg #[.bool false, .slice A 0 c], .int .i64 x] w fun e w' => e = .returned (.tuple #[.agg #[.bool false, .slice none 0 0, .int .i64 0], .int .i64 0]) ∧ Below w.heap.size w w' := by
  have kb0 := Lib.hid (blk_below (blk_new w (Obj.cells #[.bool false, .slice A 0 c] 27)) (box _ (Obj.cells #[.bool false, .slice none 0 0, .int .i64 0] 29)))
  have R := Lib.hid (Res3.new w (w.alloc (Obj.cells #[.bool false, .slice A 0 c] 27)) (.bool false) (.slice none 0 0) (.int .i64 0) (box _ _))
  have hgz : (w.alloc (Obj.cells #[.bool false, .slice A 0 c] 27)).heap.size = w.heap.size + 1 := by simp
  rw [hgz] at R
  go_enter Tryd.func26, Tryd.ntmps26
  go_wp2_with fail
  refine (nform_g A c _).mono ?_
  rintro e w1 ⟨rfl, h1⟩
  have R := Lib.hid (R.out.next h1)
  have kb := blk_below kb0.out h1
  have kz0 : w1.cell? ⟨w.heap.size, 0, none⟩ = some (.bool false) := (blk_cell kb 0).trans rfl
  have kz1 : w1.cell? ⟨w.heap.size, 1, none⟩ = some (.slice A 0 c) := (blk_cell kb 1).trans rfl
  have ky0 := R.out.c0
  have ky1 := R.out.c1
  have ky2 := R.out.c2
  have fy0 := blk_frozen R.out.blk 0
  have fy1 := blk_frozen R.out.blk 1
  have fy2 := blk_frozen R.out.blk 2
  clear kb0 kb h1 hgz
  go_wp2_with fail
  have R := R.out.put (.bool false) (.slice none 0 0) (.int .i64 0)
  have k0 := R.c0
  have k1 := R.c1
  have k2 := R.c2
  refine bodyPost_ret (v := .tuple #[.agg #[.bool false, .slice none 0 0, .int .i64 0], .int .i64 0]) (by simp [results, Tryd.results26, go_sem, k0, k1, k2]; try rfl) rfl ?_
  exact ⟨rfl, R.below⟩
theorem make_any (neg : Bool) (n : Nat) (A : Option Addr) (c : Nat) (x : Int) (w : World) (hn : n < 18446744073709551616) (hC : Kd.C (Kd.int .u64) w A (lm n).length (lm n)) (hx : -1000000 ≤ x) (hx2 : x ≤ 1000000) (hT : Tab w) :
    Calls Tryd.prog 26 #[.agg #[.bool (neg && decide (n ≠ 0)), .slice A (lm n).length c], .int .i64 x] w (DyE (neg && decide (n ≠ 0)) (dyl n) (dyx n x) 0 w) := by
  by_cases h0 : n = 0
  · subst h0
    rw [lm_zero, decide_eq_false (by simp), Bool.and_false]
    refine (make_g A c x w).mono ?_
    rintro e w' ⟨rfl, hb⟩
    exact ⟨⟨none, 0, rfl, ⟨Nat.le_refl _, nil_C _⟩⟩, hb⟩
  · rw [lm_one h0 hn] at hC ⊢
    obtain ⟨⟨G, o, sp⟩, rfl, hc⟩ := hC.2.2 (by simp)
    obtain ⟨cc, hl, hk, hcell⟩ := hc 0 (n : Int) rfl
    have hk' : cc = [.int .u64 (n : Int)] := hk
    subst hk'
    have h1 := hcell 0 _ rfl
    have e : (⟨G, o, sp⟩ : Addr).add (0 * (Kd.int IntKind.u64).sz + 0) = ⟨G, o, sp⟩ := by unfold Addr.add; rw [if_pos (by simp)]
    rw [e] at h1
    have hsp : sp = none := by
      cases sp with
      | none => rfl
      | some s =>
        exfalso
        unfold World.cell? at h1
        simp at h1
        split at h1 <;> cases h1
    subst hsp
    rw [decide_eq_true h0, Bool.and_true]
    refine (make_1 neg G o n c _ _ x w ⟨h1⟩ h0 hn rfl rfl (odd_pos h0 hn) hx hx2 hT).mono ?_
    rintro e w' ⟨⟨G', rfl, h3, hG⟩, hb⟩
    unfold dyl dyx
    rw [if_neg h0, if_neg h0]
    exact ⟨⟨_, _, rfl, ⟨Nat.le_refl _, one_C h3⟩⟩, hb⟩
end Go.Proofs.YthpnmkclboennaaDoor.BinRj
