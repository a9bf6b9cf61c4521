/- natmul.cut and sum; a copy into a row of its own. Conditions: rows of less than 2^40 limbs. -/
import Derived.Test.YtelfmddcjlocpaaGreatDoorKRoundQuotedGR
import Derived.Test.YtelfmddcjlocpaaGreatDoorKRoundQuotedPxTz
import Derived.Laws.CopyOwn
set_option linter.unusedVariables false
namespace Go.Proofs.YtelfmddcjlocpaaGreatDoor.GS
open Go.RowKit Go.Proofs.YtelfmddcjlocpaaGreatDoorW.PrintWords Go.Proofs.YtelfmddcjlocpaaGreatDoorW.PrintMore Go.Proofs.YtelfmddcjlocpaaGreatDoorW.PrintLast Go.Proofs.YtelfmddcjlocpaaGreatDoor.Num Go.Proofs.YtelfmddcjlocpaaGreatDoor.Ref Go.Proofs.YtelfmddcjlocpaaGreatDoor.GBase Go.Proofs.YtelfmddcjlocpaaGreatDoor.GTh Go.Proofs.YtelfmddcjlocpaaGreatDoor.GA Go.Proofs.YtelfmddcjlocpaaGreatDoor.GB Go.Proofs.YtelfmddcjlocpaaGreatDoor.GC Go.Proofs.YtelfmddcjlocpaaGreatDoor.GG Go.Proofs.YtelfmddcjlocpaaGreatDoor.GI Go.Proofs.YtelfmddcjlocpaaGreatDoor.GN Go.Proofs.YtelfmddcjlocpaaGreatDoor.GO Go.Proofs.YtelfmddcjlocpaaGreatDoor.GP Go.Proofs.YtelfmddcjlocpaaGreatDoor.GQ Go.Proofs.YtelfmddcjlocpaaGreatDoor.GR Go.Proofs.YtelfmddcjlocpaaGreatDoor.GK
theorem row_join {a n N : Nat} (ha : a < pw n) (hn : n ≤ N) : ((rowOf 0 N).toList.take 0 ++ lv a n ++ (rowOf 0 N).toList.drop (0 + (lv a n).length)).toArray = rowOf a N := by
 apply Array.ext_getElem?
 intro j
 rw [List.take_zero, List.nil_append, Nat.zero_add, lv_len]
 rw [List.getElem?_toArray]
 by_cases c : j < n
 ·rw [List.getElem?_append_left (by rw [lv_len]; exact c), lv_at c, rowOf_get (by omega)]
 ·rw [List.getElem?_append_right (by rw [lv_len]; omega), lv_len, List.getElem?_drop, Array.getElem?_toList, show n + (j - n) = j by omega]
  by_cases d : j < N
  ·rw [rowOf_get d, rowOf_get d, dw_zero_n, dw_out' ha (by omega)]
  ·rw [Array.getElem?_eq_none (by rw [rowOf_size]; omega), Array.getElem?_eq_none (by rw [rowOf_size]; omega)]
theorem copy_eq (w : World) (A : Option Addr) (n ca a g N cz : Nat) (hB : Bk w g N 0) (hA : Rw w A n ca a) (hn : n ≤ N) :
  ∃ w', Sem.run Tryz.prog (Builtin.copy_ #[22, 22] 3 #[.slice (some ⟨g, 0, none⟩) N cz, .slice A n ca]) w = .ok (goInt n) w' ∧ Inp w w' g N a := by
 have hsz : (Tryz.prog.info? 29).map (·.size) = some 1 := by kernel_rfl
 by_cases n0 : n = 0
 ·subst n0
  have ha : a = 0 := by
   have := hA.big
   rw [pw_zero] at this; omega
  subst ha
  exact ⟨w, run_copy_none (P := Tryz.prog) w 22 22 3 29 _ _ N cz 0 ca Tryz.underlying22 hsz (Nat.zero_min N), Inp.start hB⟩
 ·rcases hA.row with ⟨_, e, _⟩ | ⟨G, o, rfl, r⟩
  ·exact absurd e n0
  have h := run_copy_row (P := Tryz.prog) w 22 22 3 29 g 0 N cz ⟨G, o, none⟩ n ca (rowOf 0 N) 29 (lv a n)
   Tryz.underlying22 hsz hB (by rw [lv_len]; exact (Nat.min_eq_left hn).symm) (lv_cells r) (by rw [lv_len, rowOf_size]; omega) (lv_one a n)
  rw [row_join r.big hn, lv_len] at h
  refine ⟨_, h, ⟨rfl, rfl, rfl, by simp [World.setRow], fun k _ hk => setRow_other w g k _ hk⟩, ?_⟩
  exact setRow_heap w g _ _ _ _ hB
theorem cut_any (w : World) (A : Option Addr) (ca a k : Nat) (hA : Nt w A ca a) (hk : k < nl a) (h0 : 0 < k) (hn : nl a < 1099511627776) :
  Calls Tryz.prog 186 #[.slice A (nl a) ca, .int .i64 (k : Int)] w fun e w' => ∃ A0 c0 A1 c1, e = .returned (.tuple #[.slice A0 (nl (a % pw k)) c0, .slice A1 (nl (a / pw k)) c1]) ∧ Below w.heap.size w w' ∧ Nt w' A0 c0 (a % pw k) ∧ Nt w' A1 c1 (a / pw k) ∧ (∀ G o, A0 = some ⟨G, o, none⟩ → ∃ o', A = some ⟨G, o', none⟩) ∧ (∀ G o, A1 = some ⟨G, o, none⟩ → ∃ o', A = some ⟨G, o', none⟩) := by
 have hcap := hA.cap
 rcases hA.row with ⟨_, e, _⟩ | ⟨G, o, rfl, r⟩
 ·omega
 generalize hs : nl a = n at *
 have r0 : At w G o k (a % pw k) := ⟨Nat.mod_lt _ (pw_pos k), fun j hj => by
  rw [r.cell j (by omega)]
  have := dw_part (x := a) (o := 0) (m := k) hj
  rw [pw_zero, Nat.div_one, Nat.zero_add] at this
  rw [this]⟩
 have r1 : At w G (o + k) (n - k) (a / pw k) := ⟨by
   rw [Nat.div_lt_iff_lt_mul (pw_pos k), ← pw_add, show n - k + k = n by omega]; exact r.big, fun j hj => by
  rw [show o + k + j = o + (k + j) by omega, r.cell (k + j) (by omega)]
  unfold dw
  rw [Nat.div_div_eq_div_mul, ← pw_add]⟩
 have n1 : nl (a / pw k) = n - k := by
  have a0 : a ≠ 0 := fun e => by rw [e, nl_zero] at hs; omega
  have t := nl_top a0
  rw [hs] at t
  have e : n - k = (n - k - 1) + 1 := by omega
  rw [e]
  refine nl_of (by rw [← e]; exact r1.big) ?_
  unfold dw at t ⊢
  rw [Nat.div_div_eq_div_mul, ← pw_add, show k + (n - k - 1) = n - 1 by omega]
  exact t
 have T := Lib.hid (fun (w' : World) (d : Below w.heap.size w w') => mtrim_some w' G o k k (a % pw k) (r0.next d) (Nat.le_refl _) (by omega))
 have R0 := Lib.hid r0
 have R1 := Lib.hid r1
 have HN := Lib.hid (And.intro n1 (And.intro hk hcap))
 have q0 : decide ((k : Int) ≥ (n : Int)) = false := decide_eq_false (by omega)
 have q1 : decide ((n : Int) ≤ (k : Int)) = false := decide_eq_false (by omega)
 have q1' : decide (n ≤ k) = false := decide_eq_false (by omega)
 have q2 : (k : Int) ≤ (ca : Int) := by omega
 have q3 : (k : Int) ≤ (n : Int) := by omega
 have q4 : (n : Int) ≤ (ca : Int) := by omega
 have q5 : (0 : Int) ≤ (k : Int) := by omega
 clear r r0 r1 n1 hA hs hn
 go_enter Tryz.func186, Tryz.ntmps186
 go_wp2_with fail
 go_quiet ((go_at_call 164; refine Calls.quiet_of_same (T.out _ (dn_below _ _))))
 have HD := Lib.hid (dn_below w nq)
 generalize w.drewN nq = w3 at *
 go_wp2_with fail
 go_ret2
 have n1 := HN.out.1
 have hle : nl (a % pw k) ≤ k := nl_le_iff.2 R0.out.big
 refine ⟨some ⟨G, o, none⟩, nl (a % pw k), some ⟨G, o + k, none⟩, n - k, ?_, HD.out, ⟨Nat.le_refl _, .inr ⟨_, _, rfl, (R0.out.next HD.out).top⟩⟩, ⟨Nat.le_of_eq n1, .inr ⟨_, _, rfl, (R1.out.next HD.out).top⟩⟩, fun G1 o1 e => ?_, fun G1 o1 e => ?_⟩
 ·rw [n1]
  congr 3
 ·injection e with e
  injection e with e1 e2 e3
  subst e1
  exact ⟨o, rfl⟩
 ·injection e with e
  injection e with e1 e2 e3
  subst e1
  exact ⟨o, rfl⟩
theorem cut_all (w : World) (A : Option Addr) (ca a k : Nat) (hA : Nt w A ca a) (hk : nl a ≤ k) (h0 : 0 < nl a) (hn : k < 1099511627776) :
  Calls Tryz.prog 186 #[.slice A (nl a) ca, .int .i64 (k : Int)] w fun e w' => ∃ A0 c0 A1 c1, e = .returned (.tuple #[.slice A0 (nl (a % pw k)) c0, .slice A1 (nl (a / pw k)) c1]) ∧ Below w.heap.size w w' ∧ Nt w' A0 c0 (a % pw k) ∧ Nt w' A1 c1 (a / pw k) ∧ (∀ G o, A0 = some ⟨G, o, none⟩ → ∃ o', A = some ⟨G, o', none⟩) ∧ (∀ G o, A1 = some ⟨G, o, none⟩ → ∃ o', A = some ⟨G, o', none⟩) := by
 have lt := Nat.lt_of_lt_of_le (nl_lt a) (pw_mono hk)
 have e1 : a % pw k = a := Nat.mod_eq_of_lt lt
 have e2 : a / pw k = 0 := Nat.div_eq_of_lt lt
 rw [e1, e2, nl_zero]
 have hcap := hA.cap
 rcases hA.row with ⟨_, e, _⟩ | ⟨G, o, rfl, r⟩
 ·omega
 have T := Lib.hid (mtrim_some w G o (nl a) (nl a) a r (Nat.le_refl _) (by omega))
 have HA := Lib.hid hA
 generalize hs : nl a = n at *
 have q0 : decide ((k : Int) ≥ (n : Int)) = true := decide_eq_true (by omega)
 have q1 : decide ((n : Int) ≤ (k : Int)) = true := decide_eq_true (by omega)
 have q1' : decide (n ≤ k) = true := decide_eq_true hk
 have q4 : (n : Int) ≤ (ca : Int) := by omega
 have HS := Lib.hid (And.intro hs hk)
 clear r hA hcap lt e1 e2 hs hk hn h0
 go_enter Tryz.func186, Tryz.ntmps186
 go_wp2_with fail
 refine T.out.mono ?_
 rintro e w4 ⟨rfl, rfl⟩
 go_wp2_with fail
 go_ret2
 refine ⟨some ⟨G, o, none⟩, n, none, 0, rfl, Below.refl _ _, ?_, ⟨Nat.le_refl _, .inl ⟨trivial, rfl, trivial, rfl⟩⟩, fun G1 o1 e => ⟨o1, by rw [← e]⟩, fun G1 o1 e => by cases e⟩
 unfold Nt
 rw [HS.out.1]
 have := HA.out
 unfold Nt at this
 rw [HS.out.1] at this
 exact ⟨Nat.le_refl _, this.row⟩
set_option maxRecDepth 100000 in
theorem sum_le (w : World) (A B : Option Addr) (ca cb a b : Nat) (hA : Nt w A ca a) (hB : Nt w B cb b) (hle : nl b ≤ nl a) (ha : nl a < 1000000000) (hb : nl b < 1000000000) :
  Calls Tryz.prog 187 #[.slice A (nl a) ca, .slice B (nl b) cb] w fun e w' => ∃ v, e = .returned v ∧ AnT w w' v (a + b) := by
 have ls : a + b < pw (nl a + 1) := by
  have h1 := nl_lt a
  have h2 := nl_lt b
  have h3 := pw_mono (show nl b ≤ nl a by omega)
  rw [pw_succ]; omega
 obtain ⟨N, hN⟩ : ∃ N, N = nl a + 1 := ⟨_, rfl⟩
 rw [← hN] at ls
 have hbig : N < 1099511627776 := by omega
 have O0 := Lib.hid (Own.made w N)
 have HM := make_row N hbig w
 have B1 := Lib.hid (Nt.next hB (box w (Obj.cells (rowOf 0 N) 29)))
 have A1 := Nt.next hA (box w (Obj.cells (rowOf 0 N) 29))
 have OB := Rw.off' hB (Nat.le_refl _)
 obtain ⟨w2, HC, HI⟩ := copy_eq _ A (nl a) ca a w.heap.size N N (Own.bk O0.out) A1 (by omega)
 have I2 := Lib.hid HI
 have B2 := Rw.keep B1.out I2.out.exc OB
 have AD := Lib.hid (addAt_any w2 B cb b w.heap.size N N 0 a I2.out.blk B2 OB (by omega) hbig (by rw [pw_zero, Nat.mul_one]; exact ls))
 rw [pw_zero, Nat.mul_one] at AD
 have HL := Lib.hid (And.intro ls hbig)
 have q0 : decide (((nl a : Nat) : Int) < ((nl b : Nat) : Int)) = false := decide_eq_false (by omega)
 have q1 : decide (nl a < nl b) = false := decide_eq_false (by omega)
 have q2 : IntKind.i64.wrap (((nl a : Nat) : Int) + 1) = (N : Int) := by rw [IntWalk.i64_in _ (by omega)]; omega
 have q3 : wrap64 (((nl a : Nat) : Int) + 1) = (N : Int) := by rw [w64 (by omega) (by omega)]; omega
 have AD2 := Lib.hid (fun (w3 : World) (h : Inp w2 w3 w.heap.size N (a + b)) => mtrim_some w3 w.heap.size 0 N N (a + b) ((Own.inp (Own.inp O0.out I2.out) h).at ls) (Nat.le_refl _) hbig)
 clear ls A1 HI B2 hN hA hB OB ha hb hle
 generalize nl a = n at *
 generalize nl b = m at *
 go_enter Tryz.func187, Tryz.ntmps187
 go_wp2_with fail
 refine AD.out.mono ?_
 rintro e w3 ⟨rfl, h⟩
 have I3 := Lib.hid h
 have T := Lib.hid (AD2.out w3 h)
 clear h
 go_wp2_with fail
 refine T.out.mono ?_
 rintro e w4 ⟨rfl, rfl⟩
 go_wp2_with fail
 go_ret
 exact ⟨_, rfl, ⟨⟨_, _, _, rfl, Own.inp (Own.inp O0.out I2.out) I3.out, nl_le_iff.2 HL.out.1, Nat.le_refl _, HL.out.2⟩⟩⟩
set_option maxRecDepth 100000 in
theorem sum_lt (w : World) (A B : Option Addr) (ca cb a b : Nat) (hA : Nt w A ca a) (hB : Nt w B cb b) (hle : nl b < nl a) (ha : nl a < 1000000000) (hb : nl b < 1000000000) :
  Calls Tryz.prog 187 #[.slice B (nl b) cb, .slice A (nl a) ca] w fun e w' => ∃ v, e = .returned v ∧ AnT w w' v (a + b) := by
 have ls : a + b < pw (nl a + 1) := by
  have h1 := nl_lt a
  have h2 := nl_lt b
  have h3 := pw_mono (show nl b ≤ nl a by omega)
  rw [pw_succ]; omega
 obtain ⟨N, hN⟩ : ∃ N, N = nl a + 1 := ⟨_, rfl⟩
 rw [← hN] at ls
 have hbig : N < 1099511627776 := by omega
 have O0 := Lib.hid (Own.made w N)
 have HM := make_row N hbig w
 have B1 := Lib.hid (Nt.next hB (box w (Obj.cells (rowOf 0 N) 29)))
 have A1 := Nt.next hA (box w (Obj.cells (rowOf 0 N) 29))
 have OB := Rw.off' hB (Nat.le_refl _)
 obtain ⟨w2, HC, HI⟩ := copy_eq _ A (nl a) ca a w.heap.size N N (Own.bk O0.out) A1 (by omega)
 have I2 := Lib.hid HI
 have B2 := Rw.keep B1.out I2.out.exc OB
 have AD := Lib.hid (addAt_any w2 B cb b w.heap.size N N 0 a I2.out.blk B2 OB (by omega) hbig (by rw [pw_zero, Nat.mul_one]; exact ls))
 rw [pw_zero, Nat.mul_one] at AD
 have HL := Lib.hid (And.intro ls hbig)
 have q0 : decide (((nl b : Nat) : Int) < ((nl a : Nat) : Int)) = true := decide_eq_true (by omega)
 have q1 : decide (nl b < nl a) = true := decide_eq_true (by omega)
 have q2 : IntKind.i64.wrap (((nl a : Nat) : Int) + 1) = (N : Int) := by rw [IntWalk.i64_in _ (by omega)]; omega
 have q3 : wrap64 (((nl a : Nat) : Int) + 1) = (N : Int) := by rw [w64 (by omega) (by omega)]; omega
 have AD2 := Lib.hid (fun (w3 : World) (h : Inp w2 w3 w.heap.size N (a + b)) => mtrim_some w3 w.heap.size 0 N N (a + b) ((Own.inp (Own.inp O0.out I2.out) h).at ls) (Nat.le_refl _) hbig)
 clear ls A1 HI B2 hN hA hB OB ha hb hle
 generalize nl a = n at *
 generalize nl b = m at *
 go_enter Tryz.func187, Tryz.ntmps187
 go_wp2_with fail
 refine AD.out.mono ?_
 rintro e w3 ⟨rfl, h⟩
 have I3 := Lib.hid h
 have T := Lib.hid (AD2.out w3 h)
 clear h
 go_wp2_with fail
 refine T.out.mono ?_
 rintro e w4 ⟨rfl, rfl⟩
 go_wp2_with fail
 go_ret
 exact ⟨_, rfl, ⟨⟨_, _, _, rfl, Own.inp (Own.inp O0.out I2.out) I3.out, nl_le_iff.2 HL.out.1, Nat.le_refl _, HL.out.2⟩⟩⟩
theorem sum_any (w : World) (A B : Option Addr) (ca cb a b : Nat) (hA : Nt w A ca a) (hB : Nt w B cb b) (ha : nl a < 1000000000) (hb : nl b < 1000000000) :
  Calls Tryz.prog 187 #[.slice A (nl a) ca, .slice B (nl b) cb] w fun e w' => ∃ v, e = .returned v ∧ AnT w w' v (a + b) := by
 by_cases h : nl b ≤ nl a
 ·exact sum_le w A B ca cb a b hA hB h ha hb
 ·rw [Nat.add_comm]
  exact sum_lt w B A cb ca b a hB hA (by omega) hb ha
end Go.Proofs.YtelfmddcjlocpaaGreatDoor.GS
