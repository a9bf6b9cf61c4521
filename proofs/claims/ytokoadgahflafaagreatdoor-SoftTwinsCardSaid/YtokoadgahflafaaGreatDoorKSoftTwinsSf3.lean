/- Layer 9's values: telling and reading again, turning, order of arguments. Plain Lean. Conditions: formats. -/
import Derived.Test.YtokoadgahflafaaGreatDoorKSoftTwinsSf2
set_option linter.unusedVariables false
namespace Go.Proofs.YtokoadgahflafaaGreatDoor.Sf3
open Go.RowKit Go.Proofs.YtokoadgahflafaaGreatDoorW.PrintWords Go.Proofs.YtokoadgahflafaaGreatDoorW.PrintMore Go.Proofs.YtokoadgahflafaaGreatDoor.Num Go.Proofs.YtokoadgahflafaaGreatDoor.PLib Go.Proofs.YtokoadgahflafaaGreatDoor.Ref Go.Proofs.YtokoadgahflafaaGreatDoor.GTh Go.Proofs.YtokoadgahflafaaGreatDoor.Given Go.Proofs.YtokoadgahflafaaGreatDoor.Rp1 Go.Proofs.YtokoadgahflafaaGreatDoor.Rp2 Go.Proofs.YtokoadgahflafaaGreatDoor.Rp3 Go.Proofs.YtokoadgahflafaaGreatDoor.Rp4 Go.Proofs.YtokoadgahflafaaGreatDoor.Rp5 Go.Proofs.YtokoadgahflafaaGreatDoor.Rp7 Go.Proofs.YtokoadgahflafaaGreatDoor.BinLaw Go.Proofs.YtokoadgahflafaaGreatDoor.Fm8 Go.Proofs.YtokoadgahflafaaGreatDoor.Rnd Go.Proofs.YtokoadgahflafaaGreatDoor.Px Go.Proofs.YtokoadgahflafaaGreatDoor.Sf1 Go.Proofs.YtokoadgahflafaaGreatDoor.Sf2
def okV : Vl → Prop
 | .num V => V ≠ 0
 | _ => True
theorem okV_rd {f : Int} {F : Fmt} (h : Fm f F) (neg : Bool) (s : Nat) : okV (rdV F neg s) := by
 unfold rdV
 split
 ·trivial
 ·rename_i c
  split
  ·exact sv_ne (nF_ne h c)
  ·split <;> trivial
theorem okV_rdB {f : Int} {F : Fmt} (h : Fm f F) (b : Nat) : okV (rdB F b) := okV_rd h _ _
theorem okV_times {v w : Vl} (h : okV v) (h' : okV w) : okV (timesV v w) := by
 cases v <;> cases w <;> first | trivial | exact Int.mul_ne_zero h h'
theorem plusV_comm (v w : Vl) : plusV v w = plusV w v := by
 cases v with
 | nan => cases w <;> rfl
 | inf a =>
  cases w with
  | inf b =>
   show (if a = b then Vl.inf a else .nan) = (if b = a then .inf b else .nan)
   by_cases c : a = b
   ·subst c; rfl
   ·rw [if_neg c, if_neg (fun e => c e.symm)]
  | _ => rfl
 | nou a =>
  cases w with
  | nou b => show Vl.nou (a && b) = Vl.nou (b && a); rw [Bool.and_comm]
  | _ => rfl
 | num V =>
  cases w with
  | num W => show (if V + W = 0 then Vl.nou false else .num (V + W)) = (if W + V = 0 then .nou false else .num (W + V)); rw [Int.add_comm]
  | _ => rfl
theorem bne_comm' (a b : Bool) : (a != b) = (b != a) := by cases a <;> cases b <;> rfl
theorem timesV_comm (v w : Vl) : timesV v w = timesV w v := by
 cases v <;> cases w <;> first
 | rfl
 | (rename_i a b; show Vl.inf (a != _) = Vl.inf _; exact congrArg Vl.inf (bne_comm' _ _))
 | (rename_i a b; show Vl.nou (a != _) = Vl.nou _; exact congrArg Vl.nou (bne_comm' _ _))
 | (rename_i a b; show Vl.inf _ = Vl.inf _; exact congrArg Vl.inf (bne_comm' _ _))
 | (rename_i a b; show Vl.nou _ = Vl.nou _; exact congrArg Vl.nou (bne_comm' _ _))
 | (rename_i a b; show Vl.num (a * b) = Vl.num (b * a); rw [Int.mul_comm])
theorem er2_comm (e g : Int) (h : e = g ∨ e = 0 ∨ g = 0) : er2 e g = er2 g e := by
 unfold er2
 rcases h with rfl | rfl | rfl
 ·rfl
 ·by_cases c : g = 0
  ·rw [c]
  ·rw [if_pos rfl, if_neg c, if_pos rfl]
 ·by_cases c : e = 0
  ·rw [c]
  ·rw [if_neg c, if_pos rfl, if_pos rfl]
theorem erI_same (f : Int) (a b : Nat) : erI f a = erI f b ∨ erI f a = 0 ∨ erI f b = 0 := by
 unfold erI
 split
 ·exact .inl rfl
 ·split
  ·split
   ·exact .inl rfl
   ·exact .inr (.inr rfl)
  ·exact .inr (.inl rfl)
theorem rd_pv {f : Int} {F : Fmt} (h : Fm f F) {g : Nat} {V : Int} (v0 : V ≠ 0) : rdB F (Rp4.pv F g V) = rdV F (decide (V < 0)) (rsz F g V.natAbs) := by
 unfold Rp4.pv
 rw [if_neg v0]
 exact rdB_pat h _ (by have := (rsz_nst h g V.natAbs).le; have := h.sz; omega)
theorem tell_rd {f : Int} {F : Fmt} (h : Fm f F) (n : Bool) {s : Nat} (hs : s ≤ F.inf) : tellV F 0 (rdV F n s) = pat F n s := by
 unfold rdV
 by_cases c0 : s = 0
 ·rw [if_pos c0, c0]; rfl
 rw [if_neg c0]
 by_cases c1 : s < F.inf
 ·rw [if_pos c1]
  show Rp4.pv F 0 (sv n (nF F s)) = _
  unfold Rp4.pv
  rw [if_neg (sv_ne (nF_ne h c0)), sv_abs]
  have e := rsz_self h (g := 0) (s := s) (by omega)
  rw [Nat.pow_zero, Nat.mul_one] at e
  rw [e]
  congr 1
  have hp := nF_ne h c0
  cases n
  ·exact decide_eq_false (by show ¬ ((nF F s : Nat) : Int) < 0; omega)
  ·exact decide_eq_true (by show -((nF F s : Nat) : Int) < 0; omega)
 ·rw [if_neg c1, if_pos (by omega), show s = F.inf by omega]; rfl
theorem rd_quiet {f : Int} {F : Fmt} (h : Fm f F) : rdB F F.qt = .nan := by
 rcases h with ⟨_, rfl⟩ | ⟨_, rfl⟩ <;> kernel_rfl
theorem rdB_inf {f : Int} {F : Fmt} (h : Fm f F) (n : Bool) : rdB F (pat F n F.inf) = .inf n := by
 have hz := h.sz
 rw [rdB_pat h n (by omega)]
 unfold rdV
 rw [if_neg (by omega), if_neg (by omega), if_pos rfl]
theorem rdB_nou {f : Int} {F : Fmt} (h : Fm f F) (n : Bool) : rdB F (pat F n 0) = .nou n := by
 have hz := h.sz
 rw [rdB_pat h n (by omega)]
 unfold rdV
 rw [if_pos rfl]
theorem rd_tell_rd {f : Int} {F : Fmt} (h : Fm f F) (n : Bool) (s : Nat) : rdB F (tellV F 0 (rdV F n s)) = rdV F n s := by
 have hz := h.sz
 by_cases c : s ≤ F.inf
 ·rw [tell_rd h n c, rdB_pat h n (by omega)]
 ·have e : rdV F n s = .nan := by unfold rdV; rw [if_neg (by omega), if_neg (by omega), if_neg (by omega)]
  rw [e]
  exact rd_quiet h
theorem tell_turn {f : Int} {F : Fmt} (h : Fm f F) {g : Nat} {w : Vl} (hw : okV w) : tellV F 0 (turnV (rdB F (tellV F g w))) = tellV F g (turnV w) := by
 cases w with
 | nan => show tellV F 0 (turnV (rdB F F.qt)) = F.qt; rw [rd_quiet h]; rfl
 | inf n => show tellV F 0 (turnV (rdB F (pat F n F.inf))) = pat F (!n) F.inf; rw [rdB_inf h]; rfl
 | nou n => show tellV F 0 (turnV (rdB F (pat F n 0))) = pat F (!n) 0; rw [rdB_nou h]; rfl
 | num V =>
  have hw : V ≠ 0 := hw
  show tellV F 0 (turnV (rdB F (Rp4.pv F g V))) = Rp4.pv F g (-V)
  rw [rd_pv h hw, turnV_rd, tell_rd h _ (rsz_nst h g V.natAbs).le]
  unfold Rp4.pv
  rw [if_neg (by omega), Int.natAbs_neg]
  congr 1
  by_cases c : V < 0
  ·rw [decide_eq_true c, decide_eq_false (by omega)]; rfl
  ·rw [decide_eq_false c, decide_eq_true (by omega)]; rfl
theorem timesV_turn {v w : Vl} (h : okV v) (h' : okV w) : timesV (turnV v) w = turnV (timesV v w) := by
 have nb : ∀ a b : Bool, ((!a) != b) = !(a != b) := by intro a b; cases a <;> cases b <;> rfl
 have nd : ∀ V : Int, V ≠ 0 → decide (-V < 0) = !decide (V < 0) := by
  intro V h
  by_cases c : V < 0
  ·rw [decide_eq_true c, decide_eq_false (by omega)]; rfl
  ·rw [decide_eq_false c, decide_eq_true (by omega)]; rfl
 cases v with
 | nan => rfl
 | inf a => cases w <;> first | rfl | exact congrArg Vl.inf (nb _ _)
 | nou a => cases w <;> first | rfl | exact congrArg Vl.nou (nb _ _)
 | num V =>
  have h : V ≠ 0 := h
  cases w with
  | nan => rfl
  | inf b => show Vl.inf (decide (-V < 0) != b) = Vl.inf (!(decide (V < 0) != b)); rw [nd V h, nb]
  | nou b => show Vl.nou (decide (-V < 0) != b) = Vl.nou (!(decide (V < 0) != b)); rw [nd V h, nb]
  | num W => show Vl.num (-V * W) = Vl.num (-(V * W)); rw [Int.neg_mul]
theorem pv_lift (F : Fmt) (g : Nat) (V : Int) : Rp4.pv F g (V * ((2^g : Nat) : Int)) = Rp4.pv F 0 V := by
 have p : (0 : Int) < ((2^g : Nat) : Int) := by have := Nat.two_pow_pos g; omega
 unfold Rp4.pv
 by_cases c : V = 0
 ·rw [c, Int.zero_mul, if_pos rfl, if_pos rfl]
 ·rw [if_neg c, if_neg (Int.mul_ne_zero c (by omega)), Int.natAbs_mul, Int.natAbs_natCast]
  have e := rsz_scale F 0 V.natAbs g (by omega)
  rw [Nat.zero_add] at e
  rw [e]
  congr 1
  refine decide_eq_decide.2 ⟨fun k => ?_, fun k => Int.mul_neg_of_neg_of_pos k p⟩
  by_cases q : V < 0
  ·exact q
  ·have := Int.mul_nonneg (Int.not_lt.1 q) (Int.le_of_lt p); omega
theorem tell_lift (F : Fmt) (g : Nat) (v : Vl) : tellV F g (liftV g v) = tellV F 0 v := by
 cases v with
 | num V => exact pv_lift F g V
 | _ => rfl
theorem plus_lift (g : Nat) (v w : Vl) : plusV (liftV g v) (liftV g w) = liftV g (plusV v w) := by
 cases v with
 | nan => rfl
 | inf a =>
  cases w with
  | inf b => show (if a = b then Vl.inf a else .nan) = liftV g (if a = b then .inf a else .nan); split <;> rfl
  | _ => rfl
 | nou a => cases w <;> rfl
 | num V =>
  cases w with
  | num W =>
   show (if V * ((2^g : Nat) : Int) + W * ((2^g : Nat) : Int) = 0 then Vl.nou false else .num (V * ((2^g : Nat) : Int) + W * ((2^g : Nat) : Int))) = liftV g (if V + W = 0 then .nou false else .num (V + W))
   rw [← Int.add_mul]
   have p : ((2^g : Nat) : Int) ≠ 0 := by have := Nat.two_pow_pos g; omega
   by_cases c : V + W = 0
   ·rw [if_pos c, c, Int.zero_mul, if_pos rfl]; rfl
   ·rw [if_neg c, if_neg (Int.mul_ne_zero c p)]; rfl
  | _ => rfl
theorem times_one {f : Int} {F : Fmt} (g : Nat) (v : Vl) : timesV (.num ((2^g : Nat) : Int)) v = liftV g v := by
 have p := Nat.two_pow_pos g
 have e : decide (((2^g : Nat) : Int) < 0) = false := decide_eq_false (by omega)
 cases v with
 | nan => rfl
 | inf b => show Vl.inf (decide (((2^g : Nat) : Int) < 0) != b) = .inf b; rw [e]; cases b <;> rfl
 | nou b => show Vl.nou (decide (((2^g : Nat) : Int) < 0) != b) = .nou b; rw [e]; cases b <;> rfl
 | num W => show Vl.num (((2^g : Nat) : Int) * W) = .num (W * ((2^g : Nat) : Int)); rw [Int.mul_comm]
theorem one_S : rdB fS 1065353216 = .num ((2^(-fS.low).toNat : Nat) : Int) := by kernel_rfl
theorem one_D : rdB fD 4607182418800017408 = .num ((2^(-fD.low).toNat : Nat) : Int) := by kernel_rfl
theorem sgV_rd {f : Int} {F : Fmt} (h : Fm f F) (n : Bool) {s : Nat} (hs : s ≤ F.inf) : sgV (rdV F n s) = n := by
 unfold rdV
 by_cases c0 : s = 0
 ·rw [if_pos c0]; rfl
 rw [if_neg c0]
 by_cases c1 : s < F.inf
 ·rw [if_pos c1]
  have hp := nF_ne h c0
  cases n
  ·exact decide_eq_false (by show ¬ ((nF F s : Nat) : Int) < 0; omega)
  ·exact decide_eq_true (by show -((nF F s : Nat) : Int) < 0; omega)
 ·rw [if_neg c1, if_pos (by omega)]; rfl
theorem plus_nought {v w : Vl} {c : Bool} (h : ∀ a, timesV v w = .nou a → a = c) (g : Nat) : plusV (timesV v w) (liftV g (.nou c)) = timesV v w := by
 generalize timesV v w = x at *
 cases x with
 | nou a => obtain rfl := h a rfl; show Vl.nou (a && a) = _; rw [Bool.and_self]
 | _ => rfl
theorem nou_sign {v w : Vl} {a : Bool} (e : timesV v w = .nou a) : a = (sgV v != sgV w) ∧ v ≠ .nan ∧ w ≠ .nan := by
 cases v <;> cases w <;> first | (cases e; done) | (cases e; exact ⟨rfl, (fun x => by cases x), (fun x => by cases x)⟩)
theorem lt_tell {f : Int} {F : Fmt} (h : Fm f F) (g : Nat) (v : Vl) : tellV F g v < 2 * F.sg := by
 have hz := h.sz
 cases v with
 | nan => show F.qt < 2 * F.sg; rcases h with ⟨_, rfl⟩ | ⟨_, rfl⟩ <;> decide
 | inf n => exact pat_lt F n (by omega)
 | nou n => exact pat_lt F n (by omega)
 | num V =>
  show Rp4.pv F g V < _
  unfold Rp4.pv
  split
  ·omega
  ·exact pat_lt F _ (by have := (rsz_nst h g V.natAbs).le; omega)
end Go.Proofs.YtokoadgahflafaaGreatDoor.Sf3
