/- Rows written in place: what stays, and the arithmetic of a limb put into a row. No conditions. natmul.addAt and takeAway in place. Conditions: rows of less than 2^40 limbs, long enough. -/
import Derived.Test.YtelfmddcjlocpaaGreatDoorKRoundQuotedGP
section
set_option linter.unusedVariables false
namespace Go.Proofs.YtelfmddcjlocpaaGreatDoor.GQ
open Go.RowKit Go.Proofs.YtelfmddcjlocpaaGreatDoorW.PrintWords Go.Proofs.YtelfmddcjlocpaaGreatDoorW.PrintMore Go.Proofs.YtelfmddcjlocpaaGreatDoorW.PrintLast Go.Proofs.YtelfmddcjlocpaaGreatDoor.Num Go.Proofs.YtelfmddcjlocpaaGreatDoor.Ref Go.Proofs.YtelfmddcjlocpaaGreatDoor.GBase Go.Proofs.YtelfmddcjlocpaaGreatDoor.GTh Go.Proofs.YtelfmddcjlocpaaGreatDoor.GA Go.Proofs.YtelfmddcjlocpaaGreatDoor.GB Go.Proofs.YtelfmddcjlocpaaGreatDoor.GC Go.Proofs.YtelfmddcjlocpaaGreatDoor.GG Go.Proofs.YtelfmddcjlocpaaGreatDoor.GI Go.Proofs.YtelfmddcjlocpaaGreatDoor.GN Go.Proofs.YtelfmddcjlocpaaGreatDoor.GO Go.Proofs.YtelfmddcjlocpaaGreatDoor.GP
structure Exc (g : Nat) (w w' : World) : Prop where mk :: (os : w'.os = w.os) (tape : w'.tape = w.tape) (output : w'.output = w.output) (size : w.heap.size ≤ w'.heap.size) (block : ∀ k, k < w.heap.size → k ≠ g → w'.heap[k]? = w.heap[k]?)
theorem Exc.refl (g : Nat) (w : World) : Exc g w w := ⟨rfl, rfl, rfl, Nat.le_refl _, fun _ _ _ => rfl⟩
theorem Exc.trans {g : Nat} {a b c : World} (h : Exc g a b) (k : Exc g b c) : Exc g a c :=
 ⟨k.os.trans h.os, k.tape.trans h.tape, k.output.trans h.output, Nat.le_trans h.size k.size, fun i hi hn => (k.block i (Nat.lt_of_lt_of_le hi h.size) hn).trans (h.block i hi hn)⟩
theorem Exc.of {g : Nat} {w w' : World} (d : Below w.heap.size w w') : Exc g w w' := ⟨d.os, d.tape, d.output, d.size, fun k hk _ => d.block k hk⟩
theorem Exc.set (g i : Nat) (u : Value) (w : World) : Exc g w (w.setCell ⟨g, i, none⟩ u) := ⟨rfl, rfl, rfl, by simp [World.setCell], fun k _ hn => Below.heap_setCell _ _ _ _ hn⟩
theorem Exc.below {g : Nat} {W w w' : World} (h : Exc g w w') (d : Below W.heap.size W w) (hg : W.heap.size ≤ g) : Below W.heap.size W w' :=
 ⟨h.os.trans d.os, h.tape.trans d.tape, h.output.trans d.output, Nat.le_trans d.size h.size, fun k hk => (h.block k (Nat.lt_of_lt_of_le hk d.size) (by omega)).trans (d.block k hk)⟩
theorem Exc.cell {g : Nat} {w w' : World} (h : Exc g w w') {p : Addr} (hp : p.block < w.heap.size) (hn : p.block ≠ g) : w'.cell? p = w.cell? p := World.cell?_of_block (w := w) (h.block p.block hp hn)
theorem At.exc {w w' : World} {G o n x g : Nat} (h : At w G o n x) (k : Exc g w w') (hn : n = 0 ∨ G ≠ g) : At w' G o n x :=
 ⟨h.big, fun j hj => by
  have c := h.cell j hj
  have l := World.block_lt_of_cell? _ _ c
  rw [k.cell (p := ⟨G, o + j, none⟩) l (by rcases hn with e | e; omega; exact e)]; exact c⟩
def Off (g : Nat) (A : Option Addr) : Prop := ∀ G o, A = some ⟨G, o, none⟩ → G ≠ g
theorem Rw.exc {w w' : World} {A : Option Addr} {n c x g : Nat} (h : Rw w A n c x) (k : Exc g w w') (hn : Off g A) : Rw w' A n c x := by
 refine ⟨h.cap, ?_⟩
 rcases h.row with e | ⟨G, o, e, r⟩
 ·exact .inl e
 ·exact .inr ⟨G, o, e, At.exc r k (.inr (hn G o e))⟩
theorem Rw.off {w : World} {A : Option Addr} {n c x g : Nat} (h : Rw w A n c x) (hg : w.heap.size ≤ g) (h0 : n ≠ 0) : Off g A := by
 intro G o e
 rcases h.row with ⟨_, e', _⟩ | ⟨G', o', e', r⟩
 ·exact absurd e' h0
 ·rw [e'] at e
  injection e with e
  injection e with e1 e2 e3
  have l := World.block_lt_of_cell? _ _ (r.cell 0 (by omega))
  have l' : G' < w.heap.size := l
  omega
theorem dw_part {x o m j : Nat} (hj : j < m) : dw (x / pw o % pw m) j = dw x (o + j) := by
 unfold dw
 have e : pw m = pw j * pw (m - j) := by rw [← pw_add]; congr 1; omega
 have d : 18446744073709551616 ∣ pw (m - j) := ⟨pw (m - j - 1), by rw [Nat.mul_comm, ← pw_succ]; congr 1; omega⟩
 rw [e, Nat.mod_mul_right_div_self, Nat.mod_mod_of_dvd _ d, Nat.div_div_eq_div_mul, ← pw_add]
theorem Rw.off' {w : World} {A : Option Addr} {n c x g : Nat} (h : Rw w A n c x) (hg : w.heap.size ≤ g) : n = 0 ∨ Off g A := by
 by_cases h0 : n = 0
 ·exact .inl h0
 ·exact .inr (Rw.off h hg h0)
theorem Rw.keep {w w' : World} {A : Option Addr} {n c x g : Nat} (h : Rw w A n c x) (k : Exc g w w') (hn : n = 0 ∨ Off g A) : Rw w' A n c x := by
 rcases hn with e | e
 ·subst e
  refine ⟨h.cap, .inl ⟨trivial, rfl, trivial, ?_⟩⟩
  have := h.big
  rw [pw_zero] at this
  omega
 ·exact Rw.exc h k e
def Bk (w : World) (g n x : Nat) : Prop := w.heap[g]? = some (.cells (rowOf x n) 29 (0, 0))
theorem Bk.lt {w : World} {g n x : Nat} (h : Bk w g n x) : g < w.heap.size := (Array.getElem?_eq_some_iff.1 h).1
theorem Bk.next {w w' : World} {g n x : Nat} (h : Bk w g n x) (d : Below w.heap.size w w') : Bk w' g n x := blk_below h d
theorem Bk.exc {w w' : World} {g n x k : Nat} (h : Bk w g n x) (d : Exc k w w') (hn : g ≠ k) : Bk w' g n x := (d.block g h.lt hn).trans h
theorem Bk.cell {w : World} {g n x j : Nat} (h : Bk w g n x) (hj : j < n) : w.cell? ⟨g, j, none⟩ = some (.int .u64 ((dw x j : Nat) : Int)) := (blk_cell h j).trans (rowOf_get hj)
theorem Bk.at {w : World} {g n x : Nat} (h : Bk w g n x) {o m y : Nat} (hm : o + m ≤ n) (hy : y = x / pw o % pw m) : At w g o m y :=
 ⟨by rw [hy]; exact Nat.mod_lt _ (pw_pos m), fun j hj => by
  rw [h.cell (by omega), hy, dw_part hj]⟩
structure Inp (W w : World) (g n x : Nat) : Prop where mk :: (exc : Exc g W w) (blk : Bk w g n x)
theorem Inp.start {w : World} {g n x : Nat} (h : Bk w g n x) : Inp w w g n x := ⟨Exc.refl _ _, h⟩
theorem Inp.next {W w w' : World} {g n x : Nat} (h : Inp W w g n x) (d : Below w.heap.size w w') : Inp W w' g n x := ⟨h.exc.trans (Exc.of d), h.blk.next d⟩
theorem Inp.put {W w : World} {g n x y i d : Nat} (h : Inp W w g n x) (hd : d < 18446744073709551616) (e : x + d * pw i = y + dw x i * pw i) : Inp W (w.setCell ⟨g, i, none⟩ (.int .u64 (d : Int))) g n y := by
 refine ⟨h.exc.trans (Exc.set _ _ _ _), ?_⟩
 have := blk_set h.blk i (.int .u64 (d : Int))
 unfold Bk
 rwa [rowOf_set d hd e] at this
theorem Inp.cell {W w : World} {g n x j : Nat} (h : Inp W w g n x) (hj : j < n) : w.cell? ⟨g, j, none⟩ = some (.int .u64 ((dw x j : Nat) : Int)) := h.blk.cell hj
theorem Inp.frozen {W w : World} {g n x j : Nat} (h : Inp W w g n x) : w.frozen? ⟨g, j, none⟩ = false := blk_frozen h.blk j
theorem Own.bk {W w : World} {g n x : Nat} (h : Own W w g n x) : Bk w g n x := h.blk
theorem Own.inp {W w w' : World} {g n x y : Nat} (h : Own W w g n x) (k : Inp w w' g n y) : Own W w' g n y := ⟨k.exc.below h.below h.le, h.le, k.blk⟩
theorem put_ex (T p d : Nat) (hd : d < 18446744073709551616) : ∃ T', T + d * pw p = T' + dw T p * pw p ∧ T' / pw (p + 1) = T / pw (p + 1) := by
 have hp := pw_pos p
 have e0 := pw_succ p
 have hm := Nat.div_add_mod T (pw p)
 have hq := Nat.div_add_mod (T / pw p) 18446744073709551616
 have hz : dw T p = T / pw p % 18446744073709551616 := rfl
 have hr := Nat.mod_lt T hp
 obtain ⟨P, hP⟩ : ∃ P, P = pw p := ⟨_, rfl⟩
 obtain ⟨H, hH⟩ : ∃ H, H = T / pw p / 18446744073709551616 := ⟨_, rfl⟩
 obtain ⟨z, hz'⟩ : ∃ z, z = dw T p := ⟨_, rfl⟩
 obtain ⟨R, hR⟩ : ∃ R, R = T % pw p := ⟨_, rfl⟩
 rw [← hH, ← hz, ← hz'] at hq
 rw [← hR] at hm hr
 rw [← hq] at hm
 rw [← hz']
 rw [← hP] at hm hr e0 ⊢
 have eT : T = H * (P * 18446744073709551616) + z * P + R := by
  rw [← hm, Nat.mul_add]
  have a1 : P * (18446744073709551616 * H) = H * (P * 18446744073709551616) := by ac_rfl
  have a2 : P * z = z * P := Nat.mul_comm _ _
  omega
 have l : ∀ d, d < 18446744073709551616 → d * P + R < P * 18446744073709551616 := by
  intro d hd
  have := Nat.mul_le_mul_right P (show d + 1 ≤ 18446744073709551616 by omega)
  rw [Nat.add_mul, Nat.one_mul] at this
  rw [Nat.mul_comm P]
  omega
 have hzl : z < 18446744073709551616 := by rw [hz']; exact dw_lt T p
 have k : ∀ d, d < 18446744073709551616 → (H * (P * 18446744073709551616) + d * P + R) / (P * 18446744073709551616) = H := by
  intro d hd
  rw [Nat.add_assoc, Nat.mul_comm H, Nat.mul_add_div (by omega), Nat.div_eq_of_lt (l d hd), Nat.add_zero]
 refine ⟨H * (P * 18446744073709551616) + d * P + R, by omega, ?_⟩
 rw [e0, k d hd, eT, k z hzl]
theorem div_pw {T U p : Nat} (h : T / pw p = U / pw p) : T / pw (p + 1) = U / pw (p + 1) := by rw [pw_succ, ← Nat.div_div_eq_div_mul, h, Nat.div_div_eq_div_mul]
theorem add_ex {T U X c p e d c' : Nat} (h : T + c * pw p = X) (ht : T / pw p = U / pw p) (hd : d + c' * 18446744073709551616 = dw T p + e + c) (dl : d < 18446744073709551616) :
  ∃ T', T + d * pw p = T' + dw T p * pw p ∧ T' + c' * pw (p + 1) = X + e * pw p ∧ T' / pw (p + 1) = U / pw (p + 1) := by
 obtain ⟨T', h1, h2⟩ := put_ex T p d dl
 refine ⟨T', h1, ?_, h2.trans (div_pw ht)⟩
 have k := congrArg (· * pw p) hd
 simp only [Nat.add_mul] at k
 rw [pw_succ, show c' * (pw p * 18446744073709551616) = c' * 18446744073709551616 * pw p by ac_rfl]
 generalize pw p = P at *
 omega
theorem sub_ex {T U Y o p e d o' : Nat} (h : T + Y = U + o * pw p) (ht : T / pw p = U / pw p) (hd : d + e + o = dw T p + o' * 18446744073709551616) (dl : d < 18446744073709551616) :
  ∃ T', T + d * pw p = T' + dw T p * pw p ∧ T' + (Y + e * pw p) = U + o' * pw (p + 1) ∧ T' / pw (p + 1) = U / pw (p + 1) := by
 obtain ⟨T', h1, h2⟩ := put_ex T p d dl
 refine ⟨T', h1, ?_, h2.trans (div_pw ht)⟩
 have k := congrArg (· * pw p) hd
 simp only [Nat.add_mul] at k
 rw [pw_succ, show o' * (pw p * 18446744073709551616) = o' * 18446744073709551616 * pw p by ac_rfl]
 generalize pw p = P at *
 omega
theorem mod_step (b i a : Nat) : b % pw (i + 1) * pw a = b % pw i * pw a + dw b i * pw (i + a) := by
 rw [mod_succ, Nat.add_mul, pw_add]; congr 1; ac_rfl
end Go.Proofs.YtelfmddcjlocpaaGreatDoor.GQ
end
section
set_option linter.unusedVariables false
namespace Go.Proofs.YtelfmddcjlocpaaGreatDoor.GR
open Go.RowKit Go.Proofs.YtelfmddcjlocpaaGreatDoorW.PrintWords Go.Proofs.YtelfmddcjlocpaaGreatDoorW.PrintMore Go.Proofs.YtelfmddcjlocpaaGreatDoorW.PrintLast Go.Proofs.YtelfmddcjlocpaaGreatDoor.Num Go.Proofs.YtelfmddcjlocpaaGreatDoor.Ref Go.Proofs.YtelfmddcjlocpaaGreatDoor.GBase Go.Proofs.YtelfmddcjlocpaaGreatDoor.GTh Go.Proofs.YtelfmddcjlocpaaGreatDoor.GA Go.Proofs.YtelfmddcjlocpaaGreatDoor.GB Go.Proofs.YtelfmddcjlocpaaGreatDoor.GC Go.Proofs.YtelfmddcjlocpaaGreatDoor.GG Go.Proofs.YtelfmddcjlocpaaGreatDoor.GI Go.Proofs.YtelfmddcjlocpaaGreatDoor.GN Go.Proofs.YtelfmddcjlocpaaGreatDoor.GO Go.Proofs.YtelfmddcjlocpaaGreatDoor.GP Go.Proofs.YtelfmddcjlocpaaGreatDoor.GQ
set_option maxRecDepth 100000 in
set_option maxHeartbeats 400000 in
theorem addAt_any (W : World) (B : Option Addr) (cb b g N cz at_ U : Nat) (hI : Bk W g N U) (hB : Nt W B cb b) (hoff : nl b = 0 ∨ Off g B) (hat : at_ + nl b ≤ N) (hN : N < 1099511627776) (hlt : U + b * pw at_ < pw N) :
  Calls Tryz.prog 185 #[.slice (some ⟨g, 0, none⟩) N cz, .slice B (nl b) cb, .int .i64 (at_ : Int)] W fun e w' => e = .returned (.tuple #[]) ∧ Inp W w' g N (U + b * pw at_) := by
 have O0 := Lib.hid (Inp.start hI)
 have RB := Lib.hid hB
 have RO := Lib.hid hoff
 generalize hn : nl b = n at *
 have HL := Lib.hid (And.intro hn (And.intro hat (And.intro hN hlt)))
 have q1 : IntKind.i64.wrap ((at_ : Int) + (n : Int)) = ((at_ + n : Nat) : Int) := ij_wrap (by omega)
 have q2 : wrap64 ((at_ : Int) + (n : Int)) = ((at_ + n : Nat) : Int) := ij_w64 (by omega)
 clear hI hB hoff hat hN hlt hn
 go_enter Tryz.func185, Tryz.ntmps185
 go_wp2_with fail
 go_loopg [6, 11] n (fun m cv iv wr => ∃ i T c : Nat, i ≤ n ∧ m = n - i ∧ iv = .int .i64 i ∧ cv = .int .u64 (c : Int) ∧ c ≤ 1 ∧ T + c * pw (at_ + i) = U + b % pw i * pw at_ ∧ T / pw (at_ + i) = U / pw (at_ + i) ∧ Inp W wr g N T)
 case atStart => exact ⟨0, U, 0, Nat.zero_le _, rfl, rfl, rfl, by decide, by rw [pw_zero, Nat.mod_one, Nat.zero_mul, Nat.zero_mul], rfl, O0.out⟩
 case round =>
  obtain ⟨i, T, c, hi_, rfl, rfl, rfl, e2, e3, e4, ho⟩ := hrel
  have O := Lib.hid ho
  have EE := Lib.hid (And.intro e2 (And.intro e3 e4))
  clear ho e2 e3 e4 O0
  by_cases c1 : i < n
  ·have hat := HL.out.2.1
   have hN := HL.out.2.2.1
   have k1 : decide ((i : Int) < (n : Int)) = true := decide_eq_true (by omega)
   have k2 : (i : Int) < (n : Int) := by omega
   have k0 : at_ + i < 1099511627776 := by omega
   have k3 := ij_wrap k0
   have k4 := ij_w64 k0
   have k5 : at_ + i < N := by omega
   have k6 : ((at_ + i : Nat) : Int) < (N : Int) := by omega
   have rB := Rw.exc RB.out O.out.exc (RO.out.resolve_left (by omega))
   have iB : nl b = n := HL.out.1
   rcases rB.row with ⟨_, e, _⟩ | ⟨G', oB, rfl, qB⟩
   ·omega
   have zb := qB.cell i (by omega)
   have zs := O.out.cell (j := at_ + i) k5
   have fs := O.out.frozen (j := at_ + i)
   obtain ⟨lo, hlo⟩ : ∃ lo, (dw T (at_ + i) + dw b i + c) % 18446744073709551616 = lo := ⟨_, rfl⟩
   obtain ⟨hi, hhi⟩ : ∃ hi, (dw T (at_ + i) + dw b i + c) / 18446744073709551616 = hi := ⟨_, rfl⟩
   have llo : lo < 18446744073709551616 := by rw [← hlo]; exact Nat.mod_lt _ (by decide)
   have lhi : hi ≤ 1 := by have := dw_lt T (at_ + i); have := dw_lt b i; have := EE.out.1; omega
   obtain ⟨T', t1, t2, t3⟩ := add_ex (e := dw b i) (c' := hi) EE.out.2.1 EE.out.2.2 (by omega) llo
   have t4 : U + b % pw i * pw at_ + dw b i * pw (at_ + i) = U + b % pw (i + 1) * pw at_ := by rw [mod_step, Nat.add_comm at_ i, Nat.add_assoc]
   rw [t4] at t2
   have CA := Lib.hid (add64v (dw T (at_ + i)) (dw b i) c lo hi EE.out.1 hlo hhi)
   have ST := Lib.hid (And.intro llo (And.intro lhi (And.intro t1 (And.intro t2 t3))))
   have HI := Lib.hid (And.intro hi_ c1)
   generalize hx1 : dw b i = x1 at *
   generalize hz1 : dw T (at_ + i) = z1 at *
   generalize hij : at_ + i = ij at *
   clear rB iB qB hlo hhi llo lhi t1 t2 t3 t4 hi_ c1 hat hN k0 hx1
   go_wp2_with (rw [CA.out]; go_simp)
   have O3 := Lib.hid (O.out.put (d := lo) (y := T') ST.out.1 (by rw [hz1]; exact ST.out.2.2.1))
   go_region_with ((rw [CA.out]; go_simp))
   all_goals go_wp2_with fail
   all_goals go_roundg (n - (i + 1))
   all_goals first | (have := HI.out.2; omega) | exact ⟨i + 1, T', hi, HI.out.2, rfl, succ_val (by have := HI.out.2; have := HL.out.2.2.1; have := HL.out.2.1; omega), rfl, ST.out.2.1, by rw [← hij] at *; exact ST.out.2.2.2.1, by rw [← hij] at *; exact ST.out.2.2.2.2, O3.out.next (Below.refl _ _).drew⟩
  ·obtain rfl : i = n := by omega
   have k1 : decide ((i : Int) < (i : Int)) = false := decide_eq_false (by omega)
   have eb : b % pw i = b := Nat.mod_eq_of_lt (nl_le_iff.1 (Nat.le_of_eq HL.out.1))
   have e0 := EE.out.2.1
   rw [eb] at e0
   have E0 := Lib.hid (And.intro EE.out.1 e0)
   obtain ⟨p0, hp0⟩ : ∃ p0, p0 = at_ + i := ⟨_, rfl⟩
   rw [← hp0] at E0 q1 q2
   have HP := Lib.hid hp0
   clear EE e0 eb hi_ c1 hp0
   go_wp2_with fail
   go_loopg [6, 8] (N + 1 - p0) (fun m cv iv wr => ∃ p T c : Nat, p ≤ N ∧ m = N + 1 - p ∧ iv = .int .i64 p ∧ cv = .int .u64 (c : Int) ∧ c ≤ 1 ∧ T + c * pw p = U + b * pw at_ ∧ Inp W wr g N T)
   case atStart => exact ⟨p0, T, c, by have := HP.out; have := HL.out.2.1; omega, rfl, rfl, rfl, E0.out.1, E0.out.2, O.out⟩
   case round =>
    obtain ⟨p, T, c, hp, rfl, rfl, rfl, e2, e3, ho⟩ := hrel
    have O2 := Lib.hid ho
    clear ho O
    rcases Nat.eq_zero_or_pos c with c0 | c0
    ·subst c0
     have k2 : decide (((0 : Nat) : Int) > 0) = false := by decide
     have k3 : decide ((0 : Int) < ((0 : Nat) : Int)) = false := by decide
     rw [Nat.zero_mul, Nat.add_zero] at e3
     rw [e3] at O2
     clear e2 e3 hp
     go_wp2_with fail
     go_end0
     exact ⟨rfl, O2.out⟩
    ·have k2 : decide ((c : Int) > 0) = true := decide_eq_true (by omega)
     have k3 : decide ((0 : Int) < (c : Int)) = true := decide_eq_true (by omega)
     have k4 : decide (0 < c) = true := decide_eq_true c0
     have hN := HL.out.2.2.1
     have k5 : p < N := by
      rcases Nat.lt_or_ge p N with h | h
      ·exact h
      ·have := pw_mono h
       have := HL.out.2.2.2
       have := Nat.mul_le_mul_right (pw p) (show 1 ≤ c from c0)
       omega
     have k6 : (p : Int) < (N : Int) := by omega
     have zs := O2.out.cell (j := p) k5
     have fs := O2.out.frozen (j := p)
     obtain ⟨lo, hlo⟩ : ∃ lo, (dw T p + 0 + c) % 18446744073709551616 = lo := ⟨_, rfl⟩
     obtain ⟨hi, hhi⟩ : ∃ hi, (dw T p + 0 + c) / 18446744073709551616 = hi := ⟨_, rfl⟩
     have llo : lo < 18446744073709551616 := by rw [← hlo]; exact Nat.mod_lt _ (by decide)
     have lhi : hi ≤ 1 := by have := dw_lt T p; omega
     obtain ⟨T', t1, t2, t3⟩ := add_ex (U := T) (e := 0) (c' := hi) e3 rfl (by omega) llo
     rw [Nat.zero_mul, Nat.add_zero] at t2
     have CA := Lib.hid (add64z (dw T p) c lo hi e2 hlo hhi)
     have O3 := Lib.hid (O2.out.put (d := lo) (y := T') llo t1)
     have ST := Lib.hid (And.intro lhi (And.intro t2 (And.intro k5 hN)))
     generalize dw T p = z1 at *
     clear hlo hhi llo lhi t1 t2 t3 e2 e3 hp hN c0
     go_wp2_with (rw [CA.out]; go_simp)
     go_roundg (N + 1 - (p + 1))
     case measure => have := ST.out.2.2.1; omega
     case rel => exact ⟨p + 1, T', hi, ST.out.2.2.1, rfl, succ_val (by have := ST.out.2.2.1; have := ST.out.2.2.2; omega), rfl, ST.out.1, ST.out.2.1, O3.out⟩
theorem sub_key {x y c lo hi : Nat} (hx : x < 18446744073709551616) (hy : y < 18446744073709551616) (hc : c ≤ 1) (h1 : (x + 18446744073709551616 - y - c) % 18446744073709551616 = lo) (h2 : (if x < y + c then 1 else 0) = hi) : lo + y + c = x + hi * 18446744073709551616 ∧ hi ≤ 1 := by
 by_cases q : x < y + c
 ·rw [if_pos q] at h2; omega
 ·rw [if_neg q] at h2; omega
set_option maxRecDepth 100000 in
set_option maxHeartbeats 400000 in
theorem takeAway_any (W : World) (B : Option Addr) (cb b g N zn cz U : Nat) (hI : Bk W g N U) (hU : U < pw zn) (hzn : zn ≤ N) (hB : Nt W B cb b) (hoff : nl b = 0 ∨ Off g B) (hle : b ≤ U) (hN : N < 1099511627776) :
  Calls Tryz.prog 188 #[.slice (some ⟨g, 0, none⟩) zn cz, .slice B (nl b) cb] W fun e w' => e = .returned (.tuple #[]) ∧ Inp W w' g N (U - b) := by
 have O0 := Lib.hid (Inp.start hI)
 have RB := Lib.hid hB
 have RO := Lib.hid hoff
 have hat : nl b ≤ zn := nl_le_iff.2 (Nat.lt_of_le_of_lt hle hU)
 generalize hn : nl b = n at *
 have HL := Lib.hid (And.intro hn (And.intro hat (And.intro hN (And.intro hU (And.intro hzn hle)))))
 clear hI hB hoff hat hN hle hU hzn hn
 go_enter Tryz.func188, Tryz.ntmps188
 go_wp2_with fail
 go_loopg [4, 9] n (fun m cv iv wr => ∃ i T c : Nat, i ≤ n ∧ m = n - i ∧ iv = .int .i64 i ∧ cv = .int .u64 (c : Int) ∧ c ≤ 1 ∧ T + b % pw i = U + c * pw i ∧ T / pw i = U / pw i ∧ Inp W wr g N T)
 case atStart => exact ⟨0, U, 0, Nat.zero_le _, rfl, rfl, rfl, by decide, by rw [pw_zero, Nat.mod_one, Nat.zero_mul], rfl, O0.out⟩
 case round =>
  obtain ⟨i, T, c, hi_, rfl, rfl, rfl, e2, e3, e4, ho⟩ := hrel
  have O := Lib.hid ho
  have EE := Lib.hid (And.intro e2 (And.intro e3 e4))
  clear ho e2 e3 e4 O0
  by_cases c1 : i < n
  ·have hat := HL.out.2.1
   have hN := HL.out.2.2.1
   have hzn := HL.out.2.2.2.2.1
   have k1 : decide ((i : Int) < (n : Int)) = true := decide_eq_true (by omega)
   have k2 : (i : Int) < (n : Int) := by omega
   have k5 : i < N := by omega
   have k6 : (i : Int) < (zn : Int) := by omega
   have rB := Rw.exc RB.out O.out.exc (RO.out.resolve_left (by omega))
   have iB : nl b = n := HL.out.1
   rcases rB.row with ⟨_, e, _⟩ | ⟨G', oB, rfl, qB⟩
   ·omega
   have zb := qB.cell i (by omega)
   have zs := O.out.cell (j := i) k5
   have fs := O.out.frozen (j := i)
   obtain ⟨lo, hlo⟩ : ∃ lo, (dw T i + 18446744073709551616 - dw b i - c) % 18446744073709551616 = lo := ⟨_, rfl⟩
   obtain ⟨hi, hhi⟩ : ∃ hi, (if dw T i < dw b i + c then 1 else 0) = hi := ⟨_, rfl⟩
   have llo : lo < 18446744073709551616 := by rw [← hlo]; exact Nat.mod_lt _ (by decide)
   obtain ⟨key, lhi⟩ := sub_key (dw_lt T i) (dw_lt b i) EE.out.1 hlo hhi
   obtain ⟨T', t1, t2, t3⟩ := sub_ex (e := dw b i) (o' := hi) EE.out.2.1 EE.out.2.2 key llo
   have t4 : b % pw i + dw b i * pw i = b % pw (i + 1) := by rw [mod_succ, Nat.mul_comm]
   rw [t4] at t2
   have CA := Lib.hid (sub64v (dw T i) (dw b i) c lo hi EE.out.1 hlo hhi)
   have ST := Lib.hid (And.intro llo (And.intro lhi (And.intro t1 (And.intro t2 t3))))
   have HI := Lib.hid (And.intro hi_ c1)
   generalize hx1 : dw b i = x1 at *
   generalize hz1 : dw T i = z1 at *
   clear rB iB qB hlo hhi llo lhi key t1 t2 t3 t4 hi_ c1 hat hN hzn hx1
   go_wp2_with (rw [CA.out]; go_simp)
   have O3 := Lib.hid (O.out.put (d := lo) (y := T') ST.out.1 (by rw [hz1]; exact ST.out.2.2.1))
   go_region_with ((rw [CA.out]; go_simp))
   all_goals go_wp2_with fail
   all_goals go_roundg (n - (i + 1))
   all_goals first | (have := HI.out.2; omega) | exact ⟨i + 1, T', hi, HI.out.2, rfl, succ_val (by have := HI.out.2; have := HL.out.2.2.1; have := HL.out.2.1; have := HL.out.2.2.2.2.1; omega), rfl, ST.out.2.1, ST.out.2.2.2.1, ST.out.2.2.2.2, O3.out.next (Below.refl _ _).drew⟩
  ·obtain rfl : i = n := by omega
   have k1 : decide ((i : Int) < (i : Int)) = false := decide_eq_false (by omega)
   have eb : b % pw i = b := Nat.mod_eq_of_lt (nl_le_iff.1 (Nat.le_of_eq HL.out.1))
   have e0 := EE.out.2.1
   rw [eb] at e0
   have E0 := Lib.hid (And.intro EE.out.1 (And.intro e0 EE.out.2.2))
   clear EE e0 eb hi_ c1
   go_wp2_with fail
   go_loopg [4, 6] (zn + 1 - i) (fun m cv iv wr => ∃ p T c : Nat, p ≤ zn ∧ m = zn + 1 - p ∧ iv = .int .i64 p ∧ cv = .int .u64 (c : Int) ∧ c ≤ 1 ∧ T + b = U + c * pw p ∧ T / pw p = U / pw p ∧ Inp W wr g N T)
   case atStart => exact ⟨i, T, c, HL.out.2.1, rfl, rfl, rfl, E0.out.1, E0.out.2.1, E0.out.2.2, O.out⟩
   case round =>
    obtain ⟨p, T, c, hp, rfl, rfl, rfl, e2, e3, e4, ho⟩ := hrel
    have O2 := Lib.hid ho
    clear ho O
    rcases Nat.eq_zero_or_pos c with c0 | c0
    ·subst c0
     have k2 : decide (((0 : Nat) : Int) > 0) = false := by decide
     have k3 : decide ((0 : Int) < ((0 : Nat) : Int)) = false := by decide
     rw [Nat.zero_mul, Nat.add_zero] at e3
     have e5 : T = U - b := by omega
     rw [e5] at O2
     clear e2 e3 e4 e5 hp
     go_wp2_with fail
     go_end0
     exact ⟨rfl, O2.out⟩
    ·have k2 : decide ((c : Int) > 0) = true := decide_eq_true (by omega)
     have k3 : decide ((0 : Int) < (c : Int)) = true := decide_eq_true (by omega)
     have k4 : decide (0 < c) = true := decide_eq_true c0
     have hN := HL.out.2.2.1
     have hzn := HL.out.2.2.2.2.1
     have hle := HL.out.2.2.2.2.2
     have k5 : p < zn := by
      rcases Nat.lt_or_ge p zn with h | h
      ·exact h
      ·exfalso
       have h1 := Nat.lt_of_lt_of_le HL.out.2.2.2.1 (pw_mono h)
       rw [Nat.div_eq_of_lt h1] at e4
       have h2 : T < pw p := by
        rcases Nat.lt_or_ge T (pw p) with q | q
        ·exact q
        ·have := Nat.div_pos q (pw_pos p); omega
       have := Nat.mul_le_mul_right (pw p) (show 1 ≤ c from c0)
       omega
     have k6 : (p : Int) < (zn : Int) := by omega
     have k7 : p < N := by omega
     have zs := O2.out.cell (j := p) k7
     have fs := O2.out.frozen (j := p)
     obtain ⟨lo, hlo⟩ : ∃ lo, (dw T p + 18446744073709551616 - 0 - c) % 18446744073709551616 = lo := ⟨_, rfl⟩
     obtain ⟨hi, hhi⟩ : ∃ hi, (if dw T p < 0 + c then 1 else 0) = hi := ⟨_, rfl⟩
     have llo : lo < 18446744073709551616 := by rw [← hlo]; exact Nat.mod_lt _ (by decide)
     obtain ⟨key, lhi⟩ := sub_key (dw_lt T p) (show 0 < 18446744073709551616 by decide) e2 hlo hhi
     obtain ⟨T', t1, t2, t3⟩ := sub_ex (e := 0) (o' := hi) e3 e4 key llo
     rw [Nat.zero_mul, Nat.add_zero] at t2
     have CA := Lib.hid (sub64z (dw T p) c lo hi e2 hlo hhi)
     have O3 := Lib.hid (O2.out.put (d := lo) (y := T') llo t1)
     have ST := Lib.hid (And.intro lhi (And.intro t2 (And.intro k5 (And.intro (Nat.lt_of_lt_of_le k7 (Nat.le_of_lt hN)) t3))))
     generalize dw T p = z1 at *
     clear hlo hhi llo lhi key t1 t2 t3 e2 e3 e4 hp hN hzn hle c0
     go_wp2_with (rw [CA.out]; go_simp)
     go_roundg (zn + 1 - (p + 1))
     case measure => have := ST.out.2.2.1; omega
     case rel => exact ⟨p + 1, T', hi, ST.out.2.2.1, rfl, succ_val ST.out.2.2.2.1, rfl, ST.out.1, ST.out.2.1, ST.out.2.2.2.2, O3.out⟩
end Go.Proofs.YtelfmddcjlocpaaGreatDoor.GR
end
