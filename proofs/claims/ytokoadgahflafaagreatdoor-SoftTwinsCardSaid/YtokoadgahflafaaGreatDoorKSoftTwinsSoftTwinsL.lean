/- Sums and products the other way round, signs, 1 * b + c: the plain law of SoftTwins. Plain Lean over the functions. Condition: words. -/
import Derived.Test.YtokoadgahflafaaGreatDoorKSoftTwinsSf3
import Derived.Test.YtokoadgahflafaaGreatDoorKSoftTwinsPxL5
import Derived.Test.YtokoadgahflafaaGreatDoorKSoftTwinsPxL4
set_option linter.unusedVariables false
namespace Go.Proofs.YtokoadgahflafaaGreatDoor.SoftTwinsL
open Go.RowKit Go.Proofs.YtokoadgahflafaaGreatDoorW.PrintWords Go.Proofs.YtokoadgahflafaaGreatDoorW.PrintMore Go.Proofs.YtokoadgahflafaaGreatDoor.Num Go.Proofs.YtokoadgahflafaaGreatDoor.PLib Go.Proofs.YtokoadgahflafaaGreatDoor.Ref Go.Proofs.YtokoadgahflafaaGreatDoor.GTh Go.Proofs.YtokoadgahflafaaGreatDoor.Given Go.Proofs.YtokoadgahflafaaGreatDoor.Rp1 Go.Proofs.YtokoadgahflafaaGreatDoor.Rp2 Go.Proofs.YtokoadgahflafaaGreatDoor.Rp3 Go.Proofs.YtokoadgahflafaaGreatDoor.Rp4 Go.Proofs.YtokoadgahflafaaGreatDoor.Rp5 Go.Proofs.YtokoadgahflafaaGreatDoor.Rp7 Go.Proofs.YtokoadgahflafaaGreatDoor.BinLaw Go.Proofs.YtokoadgahflafaaGreatDoor.Fm8 Go.Proofs.YtokoadgahflafaaGreatDoor.Rnd Go.Proofs.YtokoadgahflafaaGreatDoor.Px Go.Proofs.YtokoadgahflafaaGreatDoor.Sf1 Go.Proofs.YtokoadgahflafaaGreatDoor.Sf2 Go.Proofs.YtokoadgahflafaaGreatDoor.Sf3
theorem awake_ev : Ev (fun k => gnomonlaw09_awake.f k) true := Ev.of (fun k => gnomonlaw09_awake.mono k) (k := 120) (by decide +kernel)
theorem ge_bit {k a : Nat} (ha : a < 2 * 2^k) : a.testBit k = decide (2^k ≤ a) := by
 rw [Nat.testBit_eq_decide_div_mod_eq]
 have hp := Nat.two_pow_pos k
 by_cases c : 2^k ≤ a
 ·rw [decide_eq_true c, decide_eq_true]
  have : a / 2^k = 1 := by
   have h1 : 1 ≤ a / 2^k := by rw [Nat.le_div_iff_mul_le hp]; omega
   have h2 : a / 2^k < 2 := by rw [Nat.div_lt_iff_lt_mul hp]; omega
   omega
  rw [this]
 ·rw [decide_eq_false c, decide_eq_false]
  rw [Nat.div_eq_of_lt (by omega)]; decide
theorem and_pow (n k : Nat) : n &&& 2^k = if n.testBit k = true then 2^k else 0 := by
 apply Nat.eq_of_testBit_eq
 intro i
 rw [Nat.testBit_and, Nat.testBit_two_pow]
 by_cases c : k = i
 ·subst c
  cases h : n.testBit k
  ·rw [if_neg (by decide), Nat.zero_testBit]; rfl
  ·rw [if_pos rfl, Nat.testBit_two_pow]; rfl
 ·rw [decide_eq_false c, Bool.and_false]
  split
  ·rw [Nat.testBit_two_pow, decide_eq_false c]
  ·rw [Nat.zero_testBit]
theorem zero_pat {f : Int} {F : Fmt} (h : Fm f F) {a b : Nat} (ha : a < 2 * F.sg) (hb : b < 2 * F.sg) : Go.bits .and .u64 ((F.sg : Nat) : Int) (Go.bits .xor .u64 (a : Int) (b : Int)) = ((pat F (decide (F.sg ≤ a) != decide (F.sg ≤ b)) 0 : Nat) : Int) := by
 have hz := h.sz
 obtain ⟨k, hk⟩ : ∃ k, F.sg = 2^k := by
  rcases h with ⟨_, rfl⟩ | ⟨_, rfl⟩
  ·exact ⟨31, rfl⟩
  ·exact ⟨63, rfl⟩
 have x : a ^^^ b < 18446744073709551616 := Nat.xor_lt_two_pow (n := 64) (by omega) (by omega)
 rw [u64_xor_nat a b (by omega) (by omega), u64_and_nat F.sg (a ^^^ b) (by omega) x, Nat.and_comm, hk, and_pow, Nat.testBit_xor, ge_bit (by omega), ge_bit (by omega)]
 unfold pat
 rw [hk]
 generalize decide (2^k ≤ a) = x
 generalize decide (2^k ≤ b) = y
 cases x <;> cases y <;> simp
theorem fma_one {f : Int} {F : Fmt} (h : Fm f F) {u a b : Nat} (hu : u < 2 * F.sg) (e : rdB F u = .num ((2^(-F.low).toNat : Nat) : Int)) (ha : a < 2 * F.sg) (hb : b < 2 * F.sg) :
  Ev (fun k => soft_Fma.f k f (u : Int) (a : Int) (b : Int)) (((tellV F 0 (plusV (rdB F a) (rdB F b)) : Nat) : Int), 0) := by
 have q := fma_ev h hu ha hb
 rw [e, times_one (f := f) (F := F), plus_lift, tell_lift] at q
 exact q
theorem fma_zero {f : Int} {F : Fmt} (h : Fm f F) {a b : Nat} (ha : a < 2 * F.sg) (hb : b < 2 * F.sg) :
  Ev (fun k => soft_Fma.f k f (a : Int) (b : Int) (Go.bits .and .u64 ((F.sg : Nat) : Int) (Go.bits .xor .u64 (a : Int) (b : Int)))) (((tellV F (-F.low).toNat (timesV (rdB F a) (rdB F b)) : Nat) : Int), 0) := by
 have hz := h.sz
 rw [zero_pat h ha hb]
 have q := fma_ev h ha hb (pat_lt F (decide (F.sg ≤ a) != decide (F.sg ≤ b)) (show 0 < F.sg by omega))
 have e0 : rdB F (pat F (decide (F.sg ≤ a) != decide (F.sg ≤ b)) 0) = .nou (decide (F.sg ≤ a) != decide (F.sg ≤ b)) := by
  rw [rdB_pat h _ (by omega)]
  unfold rdV
  rw [if_pos rfl]
 have sg : ∀ c : Nat, rdB F c ≠ .nan → sgV (rdB F c) = decide (F.sg ≤ c) := by
  intro c hc
  have : c % F.sg ≤ F.inf := by
   refine Nat.le_of_not_lt fun k => hc ?_
   unfold rdB rdV
   rw [if_neg (by omega), if_neg (by omega), if_neg (by omega)]
  exact sgV_rd h _ this
 rw [e0, plus_nought] at q
 ·exact q
 ·intro s hs
  obtain ⟨s1, s2, s3⟩ := nou_sign hs
  rw [s1, sg _ s2, sg _ s3]
theorem law_in {f : Int} {F : Fmt} (h : Fm f F) {a b u : Nat} (hu : u < 2 * F.sg) (e1 : rdB F u = .num ((2^(-F.low).toNat : Nat) : Int)) (he : (f = 32 ∧ (u : Int) = 1065353216 ∧ ((F.sg : Nat) : Int) = 2147483648) ∨ (f ≠ 32 ∧ (u : Int) = 4607182418800017408 ∧ ((F.sg : Nat) : Int) = 9223372036854775808))
  (ha : a < 2 * F.sg) (hb : b < 2 * F.sg) : Ev (fun k => gnomonlaw09_SoftTwins.f k f (a : Int) (b : Int)) true := by
 have hg : ∀ x, tellV F 0 (turnV (rdB F x)) < 2 * F.sg := fun x => lt_tell h _ _
 have hp : tellV F (-F.low).toNat (timesV (rdB F a) (rdB F b)) < 2 * F.sg := lt_tell h _ _
 have p1 := add_ev h ha hb
 have p2 := add_ev h hb ha
 rw [plusV_comm] at p2
 have m1 := mul_ev h ha hb
 have m2 := mul_ev h hb ha
 rw [timesV_comm] at m2
 have n1 := neg_ev h ha
 have n2 := neg_ev h hb
 have n3 := neg_ev h hp
 rw [tell_turn h (okV_times (okV_rdB h a) (okV_rdB h b))] at n3
 have rt : ∀ x, rdB F (tellV F 0 (turnV (rdB F x))) = turnV (rdB F x) := fun x => by
  show rdB F (tellV F 0 (turnV (rdV F _ _))) = turnV (rdV F _ _)
  rw [turnV_rd, rd_tell_rd h]
 have m3 := mul_ev h (hg a) hb
 rw [rt, timesV_turn (okV_rdB h a) (okV_rdB h b)] at m3
 have s1 := sub_ev h ha hb
 have p3 := add_ev h ha (hg b)
 rw [rt] at p3
 have f1 := fma_one h hu e1 ha hb
 have f2 := fma_zero h ha hb
 have yes : ∀ {α : Type} {x : Int} {A B : Nat → Option α} {r : α}, Ev A r → Ev (fun k => if x = x then A k else B k) r := fun q => Ev.congr (fun k => if_pos rfl) q
 unfold gnomonlaw09_SoftTwins.f
 refine Ev.bind awake_ev (Ev.congr (fun k => if_pos rfl) ?_)
 refine Ev.bind p1 (Ev.bind p2 (Ev.congr (fun k => if_pos rfl) (Ev.congr (fun k => if_pos rfl) ?_)))
 refine Ev.bind m1 (Ev.bind m2 (Ev.congr (fun k => if_pos rfl) (Ev.congr (fun k => if_pos rfl) (Ev.congr (fun k => if_pos rfl) ?_))))
 refine Ev.bind n1 (Ev.bind n2 (Ev.bind n3 (Ev.bind m3 (Ev.bind s1 (Ev.bind p3 ?_)))))
 refine Ev.congr (fun k => if_pos rfl) (Ev.congr (fun k => if_pos rfl) (Ev.congr (fun k => if_pos rfl) (Ev.congr (fun k => if_pos rfl) (Ev.congr (fun k => if_pos rfl) (Ev.congr (fun k => if_pos rfl) (Ev.congr (fun k => if_pos rfl) (Ev.congr (fun k => if_pos rfl) ?_)))))))
 rcases he with ⟨c, eu, es⟩ | ⟨c, eu, es⟩
 ·rw [eu] at f1
  rw [es] at f2
  refine Ev.congr (fun k => if_pos c) (Ev.bind p1 (Ev.bind f1 (Ev.congr (fun k => if_pos rfl) (Ev.congr (fun k => if_pos rfl) (Ev.congr (fun k => if_pos rfl) (Ev.bind f2 (Ev.congr (fun k => if_pos rfl) ?_)))))))
  rw [beq_self_eq_true]
  exact Ev.now _
 ·rw [eu] at f1
  rw [es] at f2
  refine Ev.congr (fun k => if_neg c) (Ev.bind p1 (Ev.bind f1 (Ev.congr (fun k => if_pos rfl) (Ev.congr (fun k => if_pos rfl) (Ev.congr (fun k => if_pos rfl) (Ev.bind f2 (Ev.congr (fun k => if_pos rfl) ?_)))))))
  rw [beq_self_eq_true]
  exact Ev.now _
theorem er2_cases {f : Int} {a b : Nat} : er2 (erI f a) (erI f b) = 0 ∨ er2 (erI f a) (erI f b) = 1 ∨ er2 (erI f a) (erI f b) = 2 := by
 unfold er2 erI
 repeat' split
 all_goals omega
theorem law_bad {f : Int} {a b : Nat} (ha : a < 18446744073709551616) (hb : b < 18446744073709551616) (e0 : er2 (erI f a) (erI f b) ≠ 0) : Ev (fun k => gnomonlaw09_SoftTwins.f k f (a : Int) (b : Int)) true := by
 have e := er2_comm _ _ (erI_same f a b)
 have p1 := add_bad ha hb e0
 have m1 := mul_bad ha hb e0
 have p2 := add_bad hb ha (by rw [← e]; exact e0)
 have m2 := mul_bad hb ha (by rw [← e]; exact e0)
 rw [← e] at p2 m2
 unfold gnomonlaw09_SoftTwins.f
 refine Ev.bind awake_ev (Ev.congr (fun k => if_pos rfl) ?_)
 refine Ev.bind p1 (Ev.bind p2 (Ev.congr (fun k => if_pos rfl) (Ev.congr (fun k => if_pos rfl) ?_)))
 refine Ev.bind m1 (Ev.bind m2 (Ev.congr (fun k => if_pos rfl) (Ev.congr (fun k => if_pos rfl) (Ev.congr (fun k => if_neg e0) ?_))))
 rcases @er2_cases f a b with c | c | c
 ·exact absurd c e0
 ·exact Ev.congr (fun k => if_pos c) (Ev.now _)
 ·rw [c]
  exact Ev.congr (fun k => if_neg (by decide)) (Ev.now _)
theorem law_row (a0 a1 a2 : Int) (w0 : (Lit.int .i64 a0).wf = true) (w1 : (Lit.int .u64 a1).wf = true) (w2 : (Lit.int .u64 a2).wf = true) : Ev (fun k => gnomonlaw09_SoftTwins.f k a0 a1 a2) true := by
 have e1 : IntKind.u64.min = 0 := rfl
 have e2 : IntKind.u64.max = 18446744073709551615 := rfl
 have h1 : IntKind.u64.min ≤ a1 ∧ a1 ≤ IntKind.u64.max := by simpa [Lit.wf] using w1
 have h2 : IntKind.u64.min ≤ a2 ∧ a2 ≤ IntKind.u64.max := by simpa [Lit.wf] using w2
 obtain ⟨a, rfl⟩ : ∃ a : Nat, a1 = (a : Int) := ⟨a1.toNat, by omega⟩
 obtain ⟨b, rfl⟩ : ∃ b : Nat, a2 = (b : Int) := ⟨a2.toNat, by omega⟩
 have ha : a < 18446744073709551616 := by omega
 have hb : b < 18446744073709551616 := by omega
 by_cases e0 : er2 (erI a0 a) (erI a0 b) = 0
 ·rcases fm_cases a0 with ⟨F, h⟩ | ⟨c1, c2⟩
  ·have ia : a < 2 * F.sg ∧ b < 2 * F.sg := by
    rcases erI_fm h ha with ⟨q1, q2⟩ | ⟨q1, q2⟩ <;> rcases erI_fm h hb with ⟨q3, q4⟩ | ⟨q3, q4⟩ <;> rw [q1, q3] at e0 <;> first | exact ⟨q2, q4⟩ | (exact absurd e0 (by decide))
   rcases h with ⟨rfl, rfl⟩ | ⟨rfl, rfl⟩
   ·exact law_in (.inl ⟨rfl, rfl⟩) (u := 1065353216) (by decide) one_S (.inl ⟨rfl, rfl, rfl⟩) ia.1 ia.2
   ·exact law_in (.inr ⟨rfl, rfl⟩) (u := 4607182418800017408) (by decide) one_D (.inr ⟨by decide, rfl, rfl⟩) ia.1 ia.2
  ·exfalso
   have q : ∀ c, erI a0 c = 1 := fun c => by unfold erI; rw [if_pos ⟨c1, c2⟩]
   rw [q, q] at e0
   exact absurd e0 (by decide)
 ·exact law_bad ha hb e0
end Go.Proofs.YtokoadgahflafaaGreatDoor.SoftTwinsL
