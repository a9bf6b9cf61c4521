/- natmul.thirds (Karatsuba), where the smaller products are known. Conditions: at most 16384 limbs. -/
import Derived.Test.YtelfmddcjlocpaaGreatDoorKRoundQuotedGS
set_option linter.unusedVariables false
namespace Go.Proofs.YtelfmddcjlocpaaGreatDoor.GT
open Go.RowKit Go.Proofs.YtelfmddcjlocpaaGreatDoorW.PrintWords Go.Proofs.YtelfmddcjlocpaaGreatDoorW.PrintMore Go.Proofs.YtelfmddcjlocpaaGreatDoorW.PrintLast Go.Proofs.YtelfmddcjlocpaaGreatDoor.Num Go.Proofs.YtelfmddcjlocpaaGreatDoor.Ref Go.Proofs.YtelfmddcjlocpaaGreatDoor.GBase Go.Proofs.YtelfmddcjlocpaaGreatDoor.GTh Go.Proofs.YtelfmddcjlocpaaGreatDoor.GA Go.Proofs.YtelfmddcjlocpaaGreatDoor.GB Go.Proofs.YtelfmddcjlocpaaGreatDoor.GC Go.Proofs.YtelfmddcjlocpaaGreatDoor.GG Go.Proofs.YtelfmddcjlocpaaGreatDoor.GI Go.Proofs.YtelfmddcjlocpaaGreatDoor.GN Go.Proofs.YtelfmddcjlocpaaGreatDoor.GO Go.Proofs.YtelfmddcjlocpaaGreatDoor.GP Go.Proofs.YtelfmddcjlocpaaGreatDoor.GQ Go.Proofs.YtelfmddcjlocpaaGreatDoor.GR Go.Proofs.YtelfmddcjlocpaaGreatDoor.GK Go.Proofs.YtelfmddcjlocpaaGreatDoor.GS
theorem Bk.nt {w : World} {g n x c : Nat} (h : Bk w g n x) (h1 : nl x ≤ n) (h2 : nl x ≤ c) : Nt w (some ⟨g, 0, none⟩) c x :=
 ⟨h2, .inr ⟨_, _, rfl, ⟨nl_lt x, fun j hj => by rw [Nat.zero_add]; exact Bk.cell h (by omega)⟩⟩⟩
theorem Bk.atn {w : World} {g n x m : Nat} (h : Bk w g n x) (h1 : m ≤ n) (h2 : x < pw m) : At w g 0 m x :=
 ⟨h2, fun j hj => by rw [Nat.zero_add]; exact Bk.cell h (by omega)⟩
theorem Own.exc {W w w' : World} {g n x k : Nat} (h : Own W w g n x) (e : Exc k w w') (hk : W.heap.size ≤ k) (hn : g ≠ k) : Own W w' g n x := ⟨e.below h.below hk, h.le, Bk.exc (Own.bk h) e hn⟩
theorem off_ne {g g' o : Nat} (h : g' ≠ g) : Off g (some ⟨g', o, none⟩) := fun G o' e => by
 injection e with e
 injection e with e1 e2 e3
 rw [← e1]; exact h
theorem Own.lt {W w : World} {g n x : Nat} (h : Own W w g n x) : g < w.heap.size := Bk.lt (Own.bk h)
theorem nl_shift {x k N : Nat} (h : x * pw k < pw N) (hk : k ≤ N) : k + nl x ≤ N := by
 by_cases x0 : x = 0
 ·subst x0; rw [nl_zero]; omega
 ·have h1 := nl_ge x0
  have h2 := nl_pos x0
  rcases Nat.lt_or_ge N (k + nl x) with c | c
  ·exfalso
   have h3 := Nat.mul_le_mul_right (pw k) h1
   rw [← pw_add] at h3
   have h4 := pw_mono (show N ≤ nl x - 1 + k by omega)
   omega
  ·exact c
theorem thirds_num {a0 a1 b0 b1 P : Nat} : a0 * b0 ≤ (a0 + a1) * (b0 + b1) ∧ a1 * b1 ≤ (a0 + a1) * (b0 + b1) - a0 * b0 ∧ a0 * b0 + ((a0 + a1) * (b0 + b1) - a0 * b0 - a1 * b1) * P + a1 * b1 * (P * P) = (a0 + P * a1) * (b0 + P * b1) := by
 have e : (a0 + a1) * (b0 + b1) = a0 * b0 + a1 * b1 + (a0 * b1 + a1 * b0) := by
  rw [Nat.add_mul, Nat.mul_add, Nat.mul_add]; omega
 refine ⟨by rw [e]; omega, by rw [e]; omega, ?_⟩
 have e2 : (a0 + a1) * (b0 + b1) - a0 * b0 - a1 * b1 = a0 * b1 + a1 * b0 := by rw [e]; omega
 rw [e2, Nat.add_mul (a0 * b1), Nat.mul_add (a0 + P * a1), Nat.add_mul a0, Nat.add_mul a0]
 have k1 : a0 * b1 * P = a0 * (P * b1) := by ac_rfl
 have k2 : a1 * b0 * P = P * a1 * b0 := by ac_rfl
 have k3 : a1 * b1 * (P * P) = P * a1 * (P * b1) := by ac_rfl
 omega
theorem nl_sum {x y n : Nat} (hx : nl x ≤ n) (hy : nl y ≤ n) : nl (x + y) ≤ n + 1 := by
 refine nl_le_iff.2 ?_
 have h1 := nl_le_iff.1 hx
 have h2 := nl_le_iff.1 hy
 rw [pw_succ]
 generalize pw n = P at *
 omega
theorem th_sz {n m k x0 x1 y0 y1 s t N : Nat} (la : n ≤ 16384) (lb : m ≤ n) (hk : k = (n + 1) / 2) (hN : N = n + m) (l2 : n < 2 * m) (a0 : x0 ≤ k) (b0 : y0 ≤ k) (a1 : x1 ≤ n) (b1 : y1 ≤ m) (hs : s ≤ n + 1) (ht : t ≤ n + 1) :
  x0 + y0 < 1099511627776 ∧ x1 + y1 < 1099511627776 ∧ s + t < 1099511627776 ∧ (x0 < 1000000000 ∧ x1 < 1000000000 ∧ y0 < 1000000000 ∧ y1 < 1000000000) ∧ N < 1099511627776 ∧ k + k ≤ N := by omega
theorem th_le {n m k x0 y0 y1 : Nat} (la : n ≤ 16384) (lb : m ≤ n) (hk : k = (n + 1) / 2) (l40 : 40 ≤ m) (a0 : x0 ≤ k) (b0 : y0 ≤ k) (b1 : y1 ≤ m) : x0 ≤ n ∧ y0 ≤ n ∧ y1 ≤ n := by omega
theorem th_ints {n k : Nat} (la : n ≤ 16384) (hk : k = (n + 1) / 2) : IntKind.i64.wrap ((n : Int) + 1) = ((n + 1 : Nat) : Int) ∧ wrap64 ((n : Int) + 1) = ((n + 1 : Nat) : Int) ∧ ((n + 1 : Nat) : Int) / 2 = (k : Int) ∧ Int.tdiv ((n + 1 : Nat) : Int) 2 = (k : Int) ∧ IntKind.i64.wrap (2 * (k : Int)) = ((k + k : Nat) : Int) ∧ wrap64 (2 * (k : Int)) = ((k + k : Nat) : Int) ∧ wrap64 (((n : Int) + 1).tdiv 2) = (k : Int) := by
 refine ⟨?_, ?_, by omega, ?_, ?_, ?_, ?_⟩
 ·rw [IntWalk.i64_in _ (by omega)]; omega
 ·rw [w64 (by omega) (by omega)]; omega
 ·rw [Int.tdiv_eq_ediv_of_nonneg (by omega)]; omega
 ·rw [IntWalk.i64_in _ (by omega)]; omega
 ·rw [w64 (by omega) (by omega)]; omega
 ·rw [Int.tdiv_eq_ediv_of_nonneg (by omega), w64 (by omega) (by omega)]; omega
set_option maxRecDepth 100000 in
set_option maxHeartbeats 1000000 in
theorem thirds_any (W w : World) (A B : Option Addr) (ca cb a b G N cz k a0 a1 b0 b1 : Nat) (hO : Own W w G N 0) (hA : Nt W A ca a) (hB : Nt W B cb b) (hN : N = nl a + nl b) (la : nl a ≤ 16384) (lb : nl b ≤ nl a) (l2 : nl a < 2 * nl b) (l40 : 40 ≤ nl b) (hk : k = (nl a + 1) / 2)
  (ea0 : a0 = a % pw k) (ea1 : a1 = a / pw k) (eb0 : b0 = b % pw k) (eb1 : b1 = b / pw k) (F0 : FillC a0 b0) (F1 : FillC a1 b1) (F2 : FillC (a0 + a1) (b0 + b1)) :
  Calls Tryz.prog 179 #[.slice (some ⟨G, 0, none⟩) N cz, .slice A (nl a) ca, .slice B (nl b) cb] w fun e w' => e = .returned (.tuple #[]) ∧ Own W w' G N (a * b) := by
 have CA := Lib.hid (fun (w' : World) (d : Below W.heap.size W w') => cut_any w' A ca a k (Nt.next hA d) (by omega) (by omega) (by omega))
 have CB : Hid (∀ (w' : World) (d : Below W.heap.size W w'), Calls Tryz.prog 186 #[.slice B (nl b) cb, .int .i64 (k : Int)] w' fun e w2 => ∃ A0 c0 A1 c1, e = .returned (.tuple #[.slice A0 (nl (b % pw k)) c0, .slice A1 (nl (b / pw k)) c1]) ∧ Below w'.heap.size w' w2 ∧ Nt w2 A0 c0 (b % pw k) ∧ Nt w2 A1 c1 (b / pw k) ∧ (∀ G o, A0 = some ⟨G, o, none⟩ → ∃ o', B = some ⟨G, o', none⟩) ∧ (∀ G o, A1 = some ⟨G, o, none⟩ → ∃ o', B = some ⟨G, o', none⟩)) := Lib.hid fun w' d => by
  by_cases c : k < nl b
  ·exact cut_any w' B cb b k (Nt.next hB d) c (by omega) (by omega)
  ·exact cut_all w' B cb b k (Nt.next hB d) (by omega) (by omega) (by omega)
 rw [← ea0, ← ea1] at CA
 rw [← eb0, ← eb1] at CB
 have e1 : a = a0 + pw k * a1 := by rw [ea0, ea1]; exact (Nat.mod_add_div a (pw k)).symm
 have e2 : b = b0 + pw k * b1 := by rw [eb0, eb1]; exact (Nat.mod_add_div b (pw k)).symm
 obtain ⟨t1, t2, t3⟩ := thirds_num (a0 := a0) (a1 := a1) (b0 := b0) (b1 := b1) (P := pw k)
 rw [← e1, ← e2, ← pw_add] at t3
 have hab : a * b < pw N := by
  rw [hN, pw_add]
  exact Nat.lt_of_lt_of_le (Nat.mul_lt_mul_of_lt_of_le (nl_lt a) (Nat.le_of_lt (nl_lt b)) (pw_pos _)) (Nat.le_refl _)
 have l_a0 : nl a0 ≤ k := nl_le_iff.2 (by rw [ea0]; exact Nat.mod_lt _ (pw_pos k))
 have l_b0 : nl b0 ≤ k := nl_le_iff.2 (by rw [eb0]; exact Nat.mod_lt _ (pw_pos k))
 have l_a1 : nl a1 ≤ nl a := nl_mono (by rw [ea1]; exact Nat.div_le_self _ _)
 have l_b1 : nl b1 ≤ nl b := nl_mono (by rw [eb1]; exact Nat.div_le_self _ _)
 obtain ⟨y0, y1, y2⟩ := th_le la lb hk l40 l_a0 l_b0 l_b1
 obtain ⟨z0, z1, z2, z3, z4⟩ := th_sz la lb hk hN l2 l_a0 l_b0 l_a1 l_b1 (nl_sum y0 l_a1) (nl_sum y1 y2)
 obtain ⟨q1, q2, q3, q4, q5, q6, q7⟩ := th_ints la hk
 obtain ⟨lo, hlo⟩ : ∃ lo, lo = a0 * b0 := ⟨_, rfl⟩
 obtain ⟨hi, hhi⟩ : ∃ hi, hi = a1 * b1 := ⟨_, rfl⟩
 obtain ⟨md, hmd⟩ : ∃ md, md = (a0 + a1) * (b0 + b1) := ⟨_, rfl⟩
 rw [← hlo, ← hmd] at t1
 rw [← hlo, ← hmd, ← hhi] at t2
 rw [← hlo, ← hmd, ← hhi] at t3
 obtain ⟨x, hx⟩ : ∃ x, x = md - lo - hi := ⟨_, rfl⟩
 rw [← hx] at t3
 have NB := Lib.hid (And.intro t1 (And.intro t2 (And.intro t3 (And.intro hab (And.intro hx z4)))))
 have P0 := Lib.hid (fun (w : World) (A B : Option Addr) (ca cb : Nat) (hA : Nt w A ca a0) (hB : Nt w B cb b0) => product_any w A B ca cb a0 b0 hA hB F0 z0)
 have P1 := Lib.hid (fun (w : World) (A B : Option Addr) (ca cb : Nat) (hA : Nt w A ca a1) (hB : Nt w B cb b1) => product_any w A B ca cb a1 b1 hA hB F1 z1)
 have P2 := Lib.hid (fun (w : World) (A B : Option Addr) (ca cb : Nat) (hA : Nt w A ca (a0 + a1)) (hB : Nt w B cb (b0 + b1)) => product_any w A B ca cb (a0 + a1) (b0 + b1) hA hB F2 z2)
 have SA := Lib.hid (fun (w : World) (A B : Option Addr) (ca cb : Nat) (hA : Nt w A ca a0) (hB : Nt w B cb a1) => sum_any w A B ca cb a0 a1 hA hB z3.1 z3.2.1)
 have SB := Lib.hid (fun (w : World) (A B : Option Addr) (ca cb : Nat) (hA : Nt w A ca b0) (hB : Nt w B cb b1) => sum_any w A B ca cb b0 b1 hA hB z3.2.2.1 z3.2.2.2)
 rw [← hlo] at P0
 rw [← hhi] at P1
 rw [← hmd] at P2
 have Z := Lib.hid hO
 have EX := Lib.hid t3
 rw [← t3]
 generalize nl a = n at *
 generalize nl b = m at *
 clear hO hA hB hN la lb l2 l40 hk ea0 ea1 eb0 eb1 F0 F1 F2 e1 e2 t1 t2 t3 hab l_a0 l_b0 l_a1 l_b1 y0 y1 y2 z0 z1 z2 z3 z4 hlo hhi hmd hx
 go_enter Tryz.func179, Tryz.ntmps179
 go_wp2_with fail
 refine (CA.out _ Z.out.below).mono ?_
 rintro e w1 ⟨A0, c0, A1, c1, rfl, d, n0, n1, -, -⟩
 have Z := Lib.hid (Own.next Z.out d)
 have NA0 := Lib.hid n0
 have NA1 := Lib.hid n1
 clear d n0 n1
 go_wp2_with fail
 refine (CB.out _ Z.out.below).mono ?_
 rintro e w2 ⟨B0, d0, B1, d1, rfl, d, n0, n1, -, -⟩
 have Z := Lib.hid (Own.next Z.out d)
 have NA0 := Lib.hid (Nt.next NA0.out d)
 have NA1 := Lib.hid (Nt.next NA1.out d)
 have NB0 := Lib.hid n0
 have NB1 := Lib.hid n1
 clear d n0 n1
 go_wp2_with fail
 refine (P0.out _ _ _ _ _ NA0.out NB0.out).mono ?_
 rintro e w3 ⟨v, rfl, ⟨⟨Gl, Nl, cl, rfl, o, h1, h2, h3⟩⟩⟩
 have HG0 := Lib.hid (show G ≠ Gl from Nat.ne_of_lt (Nat.lt_of_lt_of_le (Own.lt Z.out) o.le))
 have Z := Lib.hid (Own.next Z.out o.below)
 have NA0 := Lib.hid (Nt.next NA0.out o.below)
 have NA1 := Lib.hid (Nt.next NA1.out o.below)
 have NB0 := Lib.hid (Nt.next NB0.out o.below)
 have NB1 := Lib.hid (Nt.next NB1.out o.below)
 have L := Lib.hid (And.intro (Own.bk o) (And.intro h1 h2))
 clear o h1 h2 h3
 go_wp2_with fail
 refine (P1.out _ _ _ _ _ NA1.out NB1.out).mono ?_
 rintro e w4 ⟨v, rfl, ⟨⟨Gh, Nh, ch, rfl, o, h1, h2, h3⟩⟩⟩
 have HG1 := Lib.hid (show G ≠ Gh from Nat.ne_of_lt (Nat.lt_of_lt_of_le (Own.lt Z.out) o.le))
 have Z := Lib.hid (Own.next Z.out o.below)
 have NA0 := Lib.hid (Nt.next NA0.out o.below)
 have NA1 := Lib.hid (Nt.next NA1.out o.below)
 have NB0 := Lib.hid (Nt.next NB0.out o.below)
 have NB1 := Lib.hid (Nt.next NB1.out o.below)
 have L := Lib.hid (And.intro (Bk.next L.out.1 o.below) L.out.2)
 have H := Lib.hid (And.intro (Own.bk o) (And.intro h1 h2))
 clear o h1 h2 h3
 go_wp2_with fail
 refine (SA.out _ _ _ _ _ NA0.out NA1.out).mono ?_
 rintro e w5 ⟨v, rfl, ⟨⟨Gs, Ns, cs, rfl, o, h1, h2, h3⟩⟩⟩
 have Z := Lib.hid (Own.next Z.out o.below)
 have NB0 := Lib.hid (Nt.next NB0.out o.below)
 have NB1 := Lib.hid (Nt.next NB1.out o.below)
 have L := Lib.hid (And.intro (Bk.next L.out.1 o.below) L.out.2)
 have H := Lib.hid (And.intro (Bk.next H.out.1 o.below) H.out.2)
 have NS := Lib.hid (Bk.nt (c := cs) (Own.bk o) h1 h2)
 clear o h1 h2 h3 NA0 NA1
 go_wp2_with fail
 refine (SB.out _ _ _ _ _ NB0.out NB1.out).mono ?_
 rintro e w6 ⟨v, rfl, ⟨⟨Gt, Nt', ct, rfl, o, h1, h2, h3⟩⟩⟩
 have Z := Lib.hid (Own.next Z.out o.below)
 have L := Lib.hid (And.intro (Bk.next L.out.1 o.below) L.out.2)
 have H := Lib.hid (And.intro (Bk.next H.out.1 o.below) H.out.2)
 have NS := Lib.hid (Nt.next NS.out o.below)
 have NT := Lib.hid (Bk.nt (c := ct) (Own.bk o) h1 h2)
 clear o h1 h2 h3 NB0 NB1
 go_wp2_with fail
 refine (P2.out _ _ _ _ _ NS.out NT.out).mono ?_
 rintro e w7 ⟨v, rfl, ⟨⟨Gm, Nm, cm, rfl, o, h1, h2, h3⟩⟩⟩
 have hl7 : Gl ≠ Gm := by have := Bk.lt L.out.1; have := o.le; omega
 have hh7 : Gh ≠ Gm := by have := Bk.lt H.out.1; have := o.le; omega
 have hz7 : G ≠ Gm := by have := Own.lt Z.out; have := o.le; omega
 have hw7 : W.heap.size ≤ Gm := by have := Z.out.below.size; have := o.le; omega
 have HG := Lib.hid (And.intro hl7 (And.intro hh7 (And.intro hz7 hw7)))
 have Z := Lib.hid (Own.next Z.out o.below)
 have L := Lib.hid (And.intro (Bk.next L.out.1 o.below) L.out.2)
 have H := Lib.hid (And.intro (Bk.next H.out.1 o.below) H.out.2)
 have M := Lib.hid (And.intro (Own.bk o) (And.intro h1 (And.intro h2 h3)))
 clear o h1 h2 h3 NS NT hl7 hh7 hz7 hw7
 go_wp2_with fail
 have D1 := Lib.hid (takeAway_any w7 (some ⟨Gl, 0, none⟩) cl lo Gm Nm (nl md) cm md M.out.1 (nl_lt md) M.out.2.1 (Bk.nt L.out.1 L.out.2.1 L.out.2.2) (.inr (off_ne HG.out.1)) NB.out.1 M.out.2.2.2)
 refine D1.out.mono ?_
 rintro e w8 ⟨rfl, h⟩
 have Z := Lib.hid (Own.exc Z.out h.exc HG.out.2.2.2 HG.out.2.2.1)
 have L := Lib.hid (And.intro (Bk.exc L.out.1 h.exc HG.out.1) L.out.2)
 have H := Lib.hid (And.intro (Bk.exc H.out.1 h.exc HG.out.2.1) H.out.2)
 have M2 := Lib.hid h.blk
 clear D1 h
 go_wp2_with fail
 have D2 := Lib.hid (takeAway_any w8 (some ⟨Gh, 0, none⟩) ch hi Gm Nm (nl md) cm (md - lo) M2.out (Nat.lt_of_le_of_lt (Nat.sub_le _ _) (nl_lt md)) M.out.2.1 (Bk.nt H.out.1 H.out.2.1 H.out.2.2) (.inr (off_ne HG.out.2.1)) NB.out.2.1 M.out.2.2.2)
 refine D2.out.mono ?_
 rintro e w9 ⟨rfl, h⟩
 have Z := Lib.hid (Own.exc Z.out h.exc HG.out.2.2.2 HG.out.2.2.1)
 have L := Lib.hid (And.intro (Bk.exc L.out.1 h.exc HG.out.1) L.out.2)
 have H := Lib.hid (And.intro (Bk.exc H.out.1 h.exc HG.out.2.1) H.out.2)
 have M3 := Lib.hid h.blk
 rw [← NB.out.2.2.2.2.1] at M3
 clear D2 h M2
 have hlN : nl lo ≤ N := by
  have h1 := NB.out.2.2.1
  have h2 := NB.out.2.2.2.1
  exact nl_le_iff.2 (by omega)
 obtain ⟨w10, HC, HI⟩ := copy_eq w9 (some ⟨Gl, 0, none⟩) (nl lo) cl lo G N cz (Own.bk Z.out) (Bk.nt L.out.1 L.out.2.1 L.out.2.2) hlN
 have Z2 := Lib.hid (Own.inp Z.out HI)
 have H := Lib.hid (And.intro (Bk.exc H.out.1 HI.exc HG1.out.symm) H.out.2)
 have M4 := Lib.hid (Bk.exc M3.out HI.exc HG.out.2.2.1.symm)
 have lx : x ≤ md := by rw [NB.out.2.2.2.2.1]; omega
 have T := Lib.hid (mtrim_some w10 Gm 0 (nl md) cm x (Bk.atn M4.out M.out.2.1 (Nat.lt_of_le_of_lt lx (nl_lt md))) M.out.2.2.1 (Nat.lt_of_le_of_lt M.out.2.1 M.out.2.2.2))
 clear HI hlN lx L M3
 go_wp2_with fail
 refine T.out.mono ?_
 rintro e w11 ⟨rfl, rfl⟩
 go_wp2_with fail
 have hs : lo + x * pw k < pw N := by
  have h1 := NB.out.2.2.1
  have h2 := NB.out.2.2.2.1
  omega
 have D3 := Lib.hid (addAt_any w11 (some ⟨Gm, 0, none⟩) (nl x) x G N cz k lo (Own.bk Z2.out) (Bk.nt M4.out (Nat.le_trans (nl_mono (show x ≤ md by rw [NB.out.2.2.2.2.1]; omega)) M.out.2.1) (Nat.le_refl _)) (.inr (off_ne HG.out.2.2.1.symm)) (nl_shift (show x * pw k < pw N by omega) (by have := NB.out.2.2.2.2.2.2; omega)) NB.out.2.2.2.2.2.1 hs)
 clear hs
 refine D3.out.mono ?_
 rintro e w12 ⟨rfl, h⟩
 have Z3 := Lib.hid (Own.inp Z2.out h)
 have H := Lib.hid (And.intro (Bk.exc H.out.1 h.exc HG1.out.symm) H.out.2)
 clear h D3
 go_wp2_with fail
 have hs : lo + x * pw k + hi * pw (k + k) < pw N := by rw [NB.out.2.2.1]; exact NB.out.2.2.2.1
 have D4 := Lib.hid (addAt_any w12 (some ⟨Gh, 0, none⟩) ch hi G N cz (k + k) (lo + x * pw k) (Own.bk Z3.out) (Bk.nt H.out.1 H.out.2.1 H.out.2.2) (.inr (off_ne HG1.out.symm)) (nl_shift (show hi * pw (k + k) < pw N by omega) NB.out.2.2.2.2.2.2) NB.out.2.2.2.2.2.1 hs)
 clear hs
 refine D4.out.mono ?_
 rintro e w13 ⟨rfl, h⟩
 have Z4 := Lib.hid (Own.inp Z3.out h)
 clear h D4
 go_wp2_with fail
 go_end0
 exact ⟨rfl, Z4.out⟩
end Go.Proofs.YtelfmddcjlocpaaGreatDoor.GT
