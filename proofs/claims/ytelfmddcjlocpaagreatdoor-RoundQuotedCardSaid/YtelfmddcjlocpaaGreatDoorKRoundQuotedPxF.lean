/- Px, sixth part: arithmetic, comparisons, conversions, slices, literals; all operations in one. No condition. -/
import Derived.Test.YtelfmddcjlocpaaGreatDoorKRoundQuotedPxE
set_option linter.unusedVariables false
set_option linter.unusedSimpArgs false
namespace Go.Proofs.YtelfmddcjlocpaaGreatDoor.Px
open Go Go.RowKit Go.Proofs.YtelfmddcjlocpaaGreatDoorW.PrintWords Go.Proofs.YtelfmddcjlocpaaGreatDoorW.PrintMore
section
variable {P : Program} {W : World} {S : Nat → Prop} {r : Nat → Option Nat} {st : St} {a : Act} {w w' : World}
theorem wr_eq (k : IntKind) (n : Int) : wr k n = k.wrap n := by
  cases k <;> try rfl
  unfold wr wrap64 IntKind.wrap
  simp only [IntKind.bits, IntKind.signed, Bool.true_and]
  split
  · rename_i h; simp at h; omega
  · rename_i h; simp at h; omega
theorem run_int (op : BinOp) (k : IntKind) (t : TypeId) (x y : Int) (kk : IntKind) (hk : (shiftOp op || decide (k = kk)) = true) (hp : allP (effInt op k x y).2) :
    ∃ u, (binOp op t (.int k x) (.int kk y)).run P w = .ok u w ∧ ∀ T, RepC w T r (effInt op k x y).1 u := by
  cases op
  case shl => exact ⟨_, by simp [binOp, shift_shl_any k kk x y hp.1, shl], fun T => rfl⟩
  case shr => exact ⟨_, by simp [binOp, shift_shr_any k kk x y hp.1, shr], fun T => rfl⟩
  all_goals
    obtain rfl : k = kk := of_decide_eq_true (by simpa [shiftOp] using hk)
    first
    | (refine ⟨_, ?_, fun T => rfl⟩
       first
       | (simp [binOp, Op.intArith, wr_eq]; done)
       | (simp [binOp, Op.intCmp]; done)
       | (simp [binOp, Op.intDiv, hp.1, wr_eq]; done)
       | (have h0 : y ≠ 0 := hp.1
          simp [binOp, Op.intDiv, h0, wr_eq]; done)
       | (simp [binOp, Op.intBits, Go.bits]; done))
theorem eqGuard_int (op : BinOp) (t : TypeId) (x y : Operand) (k kk : IntKind) (m n : Int) : (eqGuard op t x y (.int k m) (.int kk n)).run P w = .ok () w := by
  cases op <;> rfl
theorem eqGuard_bool (op : BinOp) (t : TypeId) (x y : Operand) (m n : Bool) : (eqGuard op t x y (.bool m) (.bool n)).run P w = .ok () w := by
  cases op <;> rfl
theorem eqGuard_float (op : BinOp) (t : TypeId) (x y : Operand) (k kk : FloatKind) (m n : Nat) : (eqGuard op t x y (.float k m) (.float kk n)).run P w = .ok () w := by
  cases op <;> rfl
theorem plainS_go_len {T : Nat → Prop} (P : Program) (d : Nat) : ∀ (o : Nat) (fs : List Field) (l m : List SC) (pre xs ys : List Value) (pre2 : List Value), plainS.go P o fs l m = true → pre.length = o → pre2.length = o →
    All2 (RepC w T r) l xs → All2 (RepC w T r) m ys → ∃ b, (l = [] ∨ eqL l m = some b) ∧ (l = [] → b = true) ∧ (Op.eqFields (d + 1) (pre ++ xs).toArray (pre2 ++ ys).toArray fs).run P w = .ok b w
  | o, [], l, m, pre, xs, ys, pre2, h, h1, h2, hx, hy => by
    cases l with
    | nil => exact ⟨true, .inl rfl, fun _ => rfl, rfl⟩
    | cons c l =>
      cases m <;> simp [plainS.go] at h
  | o, f :: fs, l, m, pre, xs, ys, pre2, h, h1, h2, hx, hy => by
    cases hx with
    | nil => cases m <;> simp [plainS.go] at h
    | @cons c v l xs hc hx =>
    cases hy with
    | nil => cases c <;> simp [plainS.go] at h
    | @cons c' v' m ys hc' hy =>
    have key : ∀ (e : Bool) (hn : f.name ≠ "_") (ho : f.offset = o) (inf : TypeInfo) (dd : TypeDesc) (hi : P.info? f.type = some inf) (hu : P.underlying f.type = some dd) (hd : aggD dd = false)
        (he : (Op.equalIn (d + 1) f.type v v').run P w = .ok e w) (hgo : plainS.go P (o + 1) fs l m = true) (hq : ∀ b, eqL l m = some b → eqL (c :: l) (c' :: m) = some (e && b)) (hq0 : l = [] → m = [] → eqL (c :: l) (c' :: m) = some e),
        ∃ b, (c :: l = [] ∨ eqL (c :: l) (c' :: m) = some b) ∧ (c :: l = [] → b = true) ∧ (Op.eqFields (d + 1) (pre ++ v :: xs).toArray (pre2 ++ v' :: ys).toArray (f :: fs)).run P w = .ok b w := by
      intro e hn ho inf dd hi hu hd he hgo hq hq0
      obtain ⟨b, hb1, hb2, hb3⟩ := plainS_go_len P d (o + 1) fs l m (pre ++ [v]) xs ys (pre2 ++ [v']) hgo (by simp [h1]) (by simp [h2]) hx hy
      have g1 : (part f.type (pre ++ v :: xs).toArray f.offset).run P w = .ok v w := by
        rw [run_part hi hu, if_neg (by rw [hd]; decide), ho, ← h1]; simp
      have g2 : (part f.type (pre2 ++ v' :: ys).toArray f.offset).run P w = .ok v' w := by
        rw [run_part hi hu, if_neg (by rw [hd]; decide), ho, ← h2]; simp
      refine ⟨e && b, .inr ?_, fun h => by simp at h, ?_⟩
      · rcases hb1 with rfl | hb1
        · cases m with
          | nil =>
            have := hb2 rfl
            subst this
            rw [hq0 rfl rfl, Bool.and_true]
          | cons c m => cases fs <;> simp [plainS.go] at hgo
        · exact hq b hb1
      · simp only [Op.eqFields, hn, ne_eq, not_false_eq_true, if_true, Sem.run_bind, g1, g2, Result.andThen_ok, he]
        cases e
        · simp
        · simp only [Bool.not_true, Bool.false_eq_true, if_false, Bool.true_and]
          simpa using hb3
    have tInfo : ∀ dd, P.underlying f.type = some dd → ∃ inf, P.info? f.type = some inf := by
      intro dd h
      unfold Program.underlying at h
      cases hi : P.info? f.type with
      | none => rw [hi] at h; cases h
      | some inf => exact ⟨inf, rfl⟩
    cases c with
    | i k n =>
      cases c' with
      | i k' n' =>
        obtain rfl := hc
        obtain rfl := hc'
        simp only [plainS.go, Bool.and_eq_true] at h
        obtain ⟨⟨⟨g1, g2⟩, g3⟩, g4⟩ := h
        cases hu : P.underlying f.type with
        | none => rw [hu] at g1; cases g1
        | some dd =>
        rw [hu] at g1
        cases dd with
        | int k2 =>
          obtain rfl := of_decide_eq_true g1
          obtain ⟨inf, hi⟩ := tInfo _ hu
          refine key (n == n') (by simpa using g3) (Nat.eq_of_beq_eq_true g2) inf _ hi hu rfl (run_equalIn_int w d f.type k k2 n n' hu) g4 ?_ ?_
          · intro b hb
            cases l with
            | nil => cases m <;> simp [eqL] at hb
            | cons c l => cases m <;> simp [eqL, hb]
          · intro e1 e2; subst e1; subst e2; rfl
        | _ => cases g1
      | _ => simp [plainS.go] at h
    | b x =>
      cases c' with
      | b x' =>
        obtain rfl := hc
        obtain rfl := hc'
        simp only [plainS.go, Bool.and_eq_true] at h
        obtain ⟨⟨⟨g1, g2⟩, g3⟩, g4⟩ := h
        cases hu : P.underlying f.type with
        | none => rw [hu] at g1; cases g1
        | some dd =>
        rw [hu] at g1
        cases dd with
        | bool =>
          obtain ⟨inf, hi⟩ := tInfo _ hu
          refine key (x == x') (by simpa using g3) (Nat.eq_of_beq_eq_true g2) inf _ hi hu rfl (run_equalIn_bool' w d f.type x x' hu) g4 ?_ ?_
          · intro b hb
            cases l with
            | nil => cases m <;> simp [eqL] at hb
            | cons c l => cases m <;> simp [eqL, hb]
          · intro e1 e2; subst e1; subst e2; rfl
        | _ => cases g1
      | _ => simp [plainS.go] at h
    | _ => simp [plainS.go] at h
theorem run_structEq {T : Nat → Prop} {op : BinOp} {t : TypeId} {l m : List SC} {xs ys : List Value} (hp : plainS P t l m = true) (hx : All2 (RepC w T r) l xs) (hy : All2 (RepC w T r) m ys) {b : Bool} (hb : eqL l m = some b) {c : SC} (hc : eqOp op b = some c) (x y : Operand) :
    ∃ u, (do eqGuard op t x y (.agg xs.toArray) (.agg ys.toArray); binOp op t (.agg xs.toArray) (.agg ys.toArray) : Sem Value).run P w = .ok u w ∧ RepC w T r c u := by
  unfold plainS at hp
  cases ht : P.underlying t with
  | none => rw [ht] at hp; cases hp
  | some dd =>
  rw [ht] at hp
  cases dd with
  | struct fs =>
    simp only [Bool.and_eq_true, Bool.not_eq_true'] at hp
    obtain ⟨⟨h1, h2⟩, h3⟩ := hp
    have hfs : P.fieldsOf t = fs := by unfold Program.fieldsOf; rw [ht]
    obtain ⟨b', hb1, _, hb3⟩ := plainS_go_len P 9998 0 fs.toList l m [] xs ys [] h3 rfl rfl hx hy
    have hbb : b' = b := by
      rcases hb1 with rfl | hb1
      · cases m <;> simp [eqL] at hb
      · rw [hb] at hb1; exact (Option.some.inj hb1).symm
    subst hbb
    have heq : (Op.equalIn 10000 t (.agg xs.toArray) (.agg ys.toArray)).run P w = .ok b' w := by
      rw [run_equalIn_struct w 9999 t _ _ (by rw [hfs]; exact ht) h1, hfs]
      exact hb3
    cases op with
    | eql =>
      obtain rfl := Option.some.inj hc
      refine ⟨.bool b', ?_, rfl⟩
      simp only [Sem.run_bind, run_eqGuard_agg w .eql t x y _ _ h2, Result.andThen_ok, run_eql_struct, heq]
    | neq =>
      obtain rfl := Option.some.inj hc
      refine ⟨.bool (!b'), ?_, rfl⟩
      simp only [Sem.run_bind, run_eqGuard_agg w .neq t x y _ _ h2, Result.andThen_ok, run_neq_struct, heq]
    | _ => cases hc
  | _ => cases hp
theorem run_float {op : BinOp} {k : FloatKind} {x y : Nat} (t : TypeId) : (∀ b, flCmp op k x y = some b → (binOp op t (.float k x) (.float k y)).run P w = .ok (.bool b) w) ∧
    (∀ q r', flCmp op k x y = none → flBin op k x y = some q → q = some r' → (binOp op t (.float k x) (.float k y)).run P w = .ok (.float k r') w) := by
  constructor
  · intro b h
    cases op <;> simp [flCmp] at h <;> subst h <;> simp [binOp, Op.floatCmp]
  · intro q r' _ h e
    subst e
    cases op <;> simp [flBin] at h <;> simp [binOp, Op.floatArith, h]
theorem eff_bin {t : TypeId} {op : BinOp} {x y z : PV} {v u : Value} {T : Nat → Prop} (hx : RepV w T r x v) (hy : RepV w T r y u) {an an' : List Ans} {ps : List Prop} (he : effBin P op t x y an = some (z, ps, an')) (hp : allP ps) (ox oy : Operand) :
    ∃ q, (do eqGuard op t ox oy v u; binOp op t v u : Sem Value).run P w = .ok q w ∧ RepV w T r z q := by
  unfold effBin at he
  split at he
  · rename_i k m kk n
    obtain rfl := hx
    obtain rfl := hy
    cases hk : (shiftOp op || decide (k = kk)) with
    | false => rw [hk] at he; cases he
    | true =>
      rw [hk] at he
      obtain ⟨rfl, rfl, rfl⟩ : PV.s (effInt op k m n).1 = z ∧ (effInt op k m n).2 = ps ∧ an = an' := by simpa using he
      obtain ⟨q, h1, h2⟩ := run_int (P := P) (w := w) (r := r) op k t m n kk hk hp
      refine ⟨q, ?_, h2 T⟩
      simp only [Sem.run_bind, eqGuard_int, Result.andThen_ok, h1]
  · rename_i m n
    obtain rfl := hx
    obtain rfl := hy
    split at he
    · rename_i ht
      split at he
      · obtain ⟨rfl, rfl, rfl⟩ : PV.s (SC.b (m == n)) = z ∧ [] = ps ∧ an = an' := by simpa using he
        refine ⟨_, ?_, rfl⟩
        simp only [Sem.run_bind, eqGuard_bool, Result.andThen_ok, run_eql_bool w t m n ht]
      · obtain ⟨rfl, rfl, rfl⟩ : PV.s (SC.b (m != n)) = z ∧ [] = ps ∧ an = an' := by simpa using he
        refine ⟨.bool (m != n), ?_, rfl⟩
        simp only [Sem.run_bind, eqGuard_bool, Result.andThen_ok, run_neq_bool w t m n ht]
        rfl
      · cases he
    · cases he
  · rename_i l m
    obtain ⟨xs, rfl, hx⟩ := hx
    obtain ⟨ys, rfl, hy⟩ := hy
    split at he
    · rename_i hpl
      split at he
      · rename_i b hb
        split at he
        · rename_i c hc
          obtain ⟨rfl, rfl, rfl⟩ : PV.s c = z ∧ [] = ps ∧ an = an' := by simpa using he
          obtain ⟨q, h1, h2⟩ := run_structEq (P := P) hpl hx hy hb hc ox oy
          exact ⟨q, h1, h2⟩
        · cases he
      · cases he
    · cases he
  · rename_i k m kk n
    obtain rfl := hx
    obtain rfl := hy
    split at he
    · rename_i hk
      obtain rfl : k = kk := of_decide_eq_true hk
      split at he
      · rename_i b hb
        obtain ⟨rfl, rfl, rfl⟩ : PV.s (SC.b b) = z ∧ [] = ps ∧ an = an' := by simpa using he
        refine ⟨_, ?_, rfl⟩
        simp only [Sem.run_bind, eqGuard_float, Result.andThen_ok, (run_float (P := P) (w := w) t).1 b hb]
      · rename_i hb
        split at he
        · rename_i q _ r' an1 hq
          obtain ⟨rfl, rfl, rfl⟩ : PV.s (SC.fl k r') = z ∧ [q = some r'] = ps ∧ an1 = an' := by simpa using he
          refine ⟨_, ?_, rfl⟩
          simp only [Sem.run_bind, eqGuard_float, Result.andThen_ok, (run_float (P := P) (w := w) t).2 q r' hb hq hp.1]
        · cases he
    · cases he
  · cases he
theorem eff_un {op : UnOp} {x z : PV} {v : Value} {T : Nat → Prop} (hx : RepV w T r x v) (he : effUn op x = some z) : ∃ q, (Op.unary op v).run P w = .ok q w ∧ RepV w T r z q := by
  unfold effUn at he
  split at he
  · obtain rfl := hx
    obtain rfl := Option.some.inj he
    refine ⟨_, ?_, rfl⟩
    simp [Op.unary, Op.intArith, wr_eq]
  · obtain rfl := hx
    obtain rfl := Option.some.inj he
    exact ⟨_, by simp [Op.unary], rfl⟩
  · obtain rfl := hx
    obtain rfl := Option.some.inj he
    refine ⟨_, ?_, rfl⟩
    simp [Op.unary, Op.intBits, Go.bits]
  · obtain rfl := hx
    obtain rfl := Option.some.inj he
    exact ⟨_, by simp [Op.unary], rfl⟩
  · cases he
theorem eff_conv {s d : TypeId} {x z : PV} {v : Value} {T : Nat → Prop} (hx : RepV w T r x v) (he : effConv P s d x = some z) : ∃ q, (convert s d v).run P w = .ok q w ∧ RepV w T r z q := by
  unfold effConv at he
  split at he
  · rename_i k hs hd
    split at he
    · obtain rfl := hx
      obtain rfl := Option.some.inj he
      refine ⟨_, ?_, rfl⟩
      simp [convert, run_underlying hs, run_underlying hd, Conv.intToInt, wr_eq]
    · cases he
  · cases he
theorem eff_index {t : TypeId} {x y z : PV} {v u : Value} {T : Nat → Prop} (hx : RepV w T r x v) (hy : RepV w T r y u) {ps : List Prop} (he : effIndex P t x y = some (z, ps)) (hp : allP ps) : ∃ q, (Instr.indexAt t v u).run P w = .ok q w ∧ RepV w T r z q := by
  unfold effIndex at he
  split at he
  · rename_i el ht
    split at he
    · rename_i inf k l k' n hi
      obtain ⟨A, c, rfl, hc, hs⟩ := hx
      obtain rfl := hy
      cases hz : Nat.beq inf.size 1 with
      | false => rw [hz] at he; cases he
      | true =>
        rw [hz] at he
        obtain ⟨rfl, rfl⟩ : PV.s (.ep k (rd l n)) = z ∧ [0 ≤ n, n < (l.length : Int)] = ps := by simpa using he
        obtain ⟨h0, h1, _⟩ := hp
        have h1' := Nat.eq_of_beq_eq_true hz
        have hlt : n.toNat < l.length := by omega
        rcases hs with rfl | ⟨b, o, rfl, hT, hcell⟩
        · simp at hlt
        · have hcl := hcell n.toNat _ (List.getElem?_eq_getElem hlt)
          refine ⟨.pointer (some ⟨b, o + n.toNat, none⟩), ?_, b, o + n.toNat, rfl, hT.1, ?_⟩
          · simp [Instr.indexAt, asIntOf, run_underlying ht, h0, h1, run_sizeOf hi, h1', add_plain]
          · rw [hcl]
            unfold rd
            rw [List.getD_eq_getElem?_getD, List.getElem?_eq_getElem hlt]; rfl
    · cases he
  · cases he
theorem eff_len {ts : Array TypeId} {t : TypeId} {xs : List PV} {vs : List Value} {z : PV} {T : Nat → Prop} (hx : All2 (RepV w T r) xs vs) (he : effLen P ts xs = some z) : ∃ q, (Builtin.len_ ts t vs.toArray).run P w = .ok q w ∧ RepV w T r z q := by
  unfold effLen at he
  split at he
  · rename_i t' k l hts
    cases hx with
    | cons h1 h2 =>
    cases h2
    split at he
    · rename_i el hu
      obtain rfl := Option.some.inj he
      obtain ⟨A, c, rfl, _, _⟩ := h1
      refine ⟨_, ?_, rfl⟩
      simp [Builtin.len_, hts, run_underlying hu, goInt]
    · cases he
  · cases he
theorem eff_extract {x z : PV} {i : Nat} {v : Value} {T : Nat → Prop} (hx : RepV w T r x v) (he : effExtract x i = some z) : ∃ q, (Instr.extract v i).run P w = .ok q w ∧ RepV w T r z q := by
  unfold effExtract at he
  split at he
  · rename_i l
    obtain ⟨vs, rfl, hl⟩ := hx
    split at he
    · rename_i p hp
      obtain rfl := Option.some.inj he
      obtain ⟨q, hq, hr⟩ := hl.get hp
      refine ⟨q, ?_, ?_⟩
      · simp [Instr.extract, hq]
      · cases p <;> exact hr
    · cases he
  · cases he
end
end Go.Proofs.YtelfmddcjlocpaaGreatDoor.Px
