/- An operation of binary32 is the same operation of binary64, narrowed: the plain law of SoftThroughDouble. Plain Lean over the functions. Condition: words. -/
import Derived.Test.YtokoadgahflafaaGreatDoorKSoftThroughDoubleThruV
import Derived.Test.YtokoadgahflafaaGreatDoorKSoftThroughDoubleGM
import Derived.Test.YtokoadgahflafaaGreatDoorKSoftThroughDoublePxT1
import Derived.Test.YtokoadgahflafaaGreatDoorKSoftThroughDoublePxL4
import Derived.Test.YtokoadgahflafaaGreatDoorKSoftThroughDoublePxT0
import Derived.Test.YtokoadgahflafaaGreatDoorKSoftThroughDoublePxL3
set_option linter.unusedVariables false
namespace Go.Proofs.YtokoadgahflafaaGreatDoor.SoftThroughDoubleL
open Go.RowKit Go.Proofs.YtokoadgahflafaaGreatDoorW.PrintWords Go.Proofs.YtokoadgahflafaaGreatDoorW.PrintMore Go.Proofs.YtokoadgahflafaaGreatDoor.Num Go.Proofs.YtokoadgahflafaaGreatDoor.PLib Go.Proofs.YtokoadgahflafaaGreatDoor.Ref Go.Proofs.YtokoadgahflafaaGreatDoor.GTh Go.Proofs.YtokoadgahflafaaGreatDoor.Given Go.Proofs.YtokoadgahflafaaGreatDoor.Rp1 Go.Proofs.YtokoadgahflafaaGreatDoor.Rp2 Go.Proofs.YtokoadgahflafaaGreatDoor.Rp3 Go.Proofs.YtokoadgahflafaaGreatDoor.Rp4 Go.Proofs.YtokoadgahflafaaGreatDoor.Rp5 Go.Proofs.YtokoadgahflafaaGreatDoor.Rp7 Go.Proofs.YtokoadgahflafaaGreatDoor.BinLaw Go.Proofs.YtokoadgahflafaaGreatDoor.Fm8 Go.Proofs.YtokoadgahflafaaGreatDoor.Rnd Go.Proofs.YtokoadgahflafaaGreatDoor.Sq Go.Proofs.YtokoadgahflafaaGreatDoor.Px Go.Proofs.YtokoadgahflafaaGreatDoor.Sf1 Go.Proofs.YtokoadgahflafaaGreatDoor.Sf2 Go.Proofs.YtokoadgahflafaaGreatDoor.Sf3 Go.Proofs.YtokoadgahflafaaGreatDoor.Sf4 Go.Proofs.YtokoadgahflafaaGreatDoor.Sf5 Go.Proofs.YtokoadgahflafaaGreatDoor.Sf6 Go.Proofs.YtokoadgahflafaaGreatDoor.Rep Go.Proofs.YtokoadgahflafaaGreatDoor.Err Go.Proofs.YtokoadgahflafaaGreatDoor.Thru Go.Proofs.YtokoadgahflafaaGreatDoor.ThruV
theorem thr_awake : Ev (fun k => gnomonlaw09_awake.f k) true := Ev.of (fun k => gnomonlaw09_awake.mono k) (k := 120) (by decide +kernel)
theorem thr_shapeOf {f : Int} {F : Fmt} (h : Fm f F) : binary_shapeOf.f f = some ((F.wd : Int), (F.man : Int), F.low, (F.qt : Int)) := by
 rcases h with ⟨rfl, rfl⟩ | ⟨rfl, rfl⟩ <;> rfl
theorem thr_made {f : Int} {F : Fmt} (h : Fm f F) (neg : Bool) {s : Nat} (hs : s < F.sg) : binary_shape_made.f (F.wd : Nat) (F.man : Nat) F.low (F.qt : Nat) neg (s : Int) = some ((pat F neg s : Nat) : Int) := by
 unfold binary_shape_made.f pat
 cases neg
 ·rfl
 ·rw [if_pos rfl, sign_f h]
  simp only [Option.bind_some, if_true]
  rw [or_sg (fm_isF h) hs]
theorem thr_ne : ((fD.wd : Int) == 0 && ((fD.man : Int) == 0 && (fD.low == 0 && ((fD.qt : Int) == 0)))) = false := rfl
theorem join_nought (neg : Bool) (e : Int) : binary_Join.f 64 neg 0 e = some (((pat fD neg 0 : Nat) : Int), 0) := by
 unfold binary_Join.f
 rw [thr_shapeOf tD, Option.bind_some]
 dsimp only
 rw [thr_ne, if_neg (by decide), if_pos rfl]
 have := thr_made tD neg (s := 0) (by decide)
 rw [show ((0 : Nat) : Int) = 0 from rfl] at this
 rw [this]; rfl
theorem join_wide (neg : Bool) {m : Nat} (m0 : m ≠ 0) (hm : m < 16777216) {e : Int} (h1 : -149 ≤ e) (h2 : e ≤ 200) :
  ∃ u, u < fD.inf ∧ u ≠ 0 ∧ nF fD u = m * 2^(e + 1074).toNat ∧ binary_Join.f 64 neg (m : Int) e = some (((pat fD neg u : Nat) : Int), 0) := by
 have fm : (fD.man : Int) = 53 := rfl
 have fl : fD.low = -1074 := rfl
 obtain ⟨c, hc⟩ := tz_spec m0
 obtain ⟨t, ht⟩ : ∃ t, t = tz m := ⟨_, rfl⟩
 obtain ⟨o, ho⟩ : ∃ o, o = 2 * c + 1 := ⟨_, rfl⟩
 rw [← ht, ← ho] at hc
 have pt := Nat.two_pow_pos t
 have t24 : t < 24 := by
  have : 2^t < 2^24 := Nat.lt_of_le_of_lt (Nat.le_trans (Nat.le_mul_of_pos_right _ (show 0 < o by omega)) (Nat.le_of_eq hc.symm)) hm
  exact (Nat.pow_lt_pow_iff_right (a := 2) (by decide)).1 this
 have ol : o ≤ m := by rw [hc]; exact Nat.le_mul_of_pos_left _ pt
 obtain ⟨n, hn⟩ : ∃ n, n = bl o := ⟨_, rfl⟩
 have n24 : n ≤ 24 := by rw [hn]; exact bl_le_of_lt (by omega)
 have b1 := bl_lt o
 have b2 := bl_ge (n := o) (by omega)
 have n1 := bl_pos (x := o) (by omega)
 rw [← hn] at b1 b2 n1
 have es : shr .u64 ((m : Nat) : Int) ((t : Nat) : Int) = ((o : Nat) : Int) := by
  have := shr_small (k := .u64) (x := ((m : Nat) : Int)) (y := ((t : Nat) : Int)) rfl (by show ((t : Nat) : Int) ≤ 64; omega)
  rw [← this, Int.toNat_natCast, hc]
  have e2 : (2:Int)^t = ((2^t : Nat) : Int) := by rw [Int.natCast_pow]; rfl
  rw [e2, Int.natCast_mul, Int.mul_ediv_cancel_left _ (by omega)]
 obtain ⟨p, hp⟩ : ∃ p, p = 53 - n := ⟨_, rfl⟩
 obtain ⟨M, hM⟩ : ∃ M, M = o * 2^p := ⟨_, rfl⟩
 have pp := Nat.two_pow_pos p
 have M1 : 4503599627370496 ≤ M := by
  have : 2^(n - 1) * 2^p ≤ M := by rw [hM]; exact Nat.mul_le_mul_right _ b2
  rw [← Nat.pow_add, show n - 1 + p = 52 by omega] at this
  exact this
 have M2 : M < 9007199254740992 := by
  have : M < 2^n * 2^p := by rw [hM]; exact Nat.mul_lt_mul_of_pos_right b1 pp
  rw [← Nat.pow_add, show n + p = 53 by omega] at this
  exact this
 have el : shl .u64 ((o : Nat) : Int) ((p : Nat) : Int) = ((M : Nat) : Int) := by
  have := shl_small (k := .u64) (x := ((o : Nat) : Int)) (y := ((p : Nat) : Int)) rfl (by show ((p : Nat) : Int) ≤ 64; omega)
  rw [← this, Int.toNat_natCast]
  have e2 : (2:Int)^p = ((2^p : Nat) : Int) := by rw [Int.natCast_pow]; rfl
  rw [e2, ← Int.natCast_mul, ← hM, wu64 (by omega) (by omega)]
 obtain ⟨E, hE⟩ : ∃ E : Nat, E = (e + t - p + 1074).toNat := ⟨_, rfl⟩
 have eE : (E : Int) = e + t - p + 1074 := by omega
 have nf := (nF_at tD (j := E) (q := M) (by rw [hD]; omega) (.inr (by rw [hD]; omega))).1
 rw [hD] at nf
 have inf : fD.inf = 9218868437227405312 := rfl
 have sg : fD.sg = 9223372036854775808 := rfl
 refine ⟨E * 2^52 + M, by omega, by omega, ?_, ?_⟩
 ·rw [nf, hM, hc, Nat.mul_assoc, ← Nat.pow_add]
  rw [show p + E = (e + 1074).toNat + t by omega]
  rw [Nat.pow_add, Nat.mul_comm (2^((e + 1074).toNat)), Nat.mul_left_comm, Nat.mul_assoc]
 unfold binary_Join.f
 rw [thr_shapeOf tD, Option.bind_some]
 dsimp only
 rw [thr_ne, if_neg (by decide), if_neg (by omega), w64 (x := fD.low - 64) (by omega) (by omega), if_neg (by omega), w64 (x := fD.low + 4096) (by omega) (by omega), if_neg (by omega)]
 unfold bits_TrailingZeros64.f
 rw [if_pos ⟨by omega, by omega⟩, Int.toNat_natCast, ← ht, Option.bind_some, if_pos (by omega), es]
 unfold bits_Len64.f
 rw [if_pos ⟨by omega, by omega⟩, Int.toNat_natCast, ← hn, Option.bind_some, if_neg (by omega), w64 (x := e + t) (by omega) (by omega), if_neg (by omega)]
 have eu : mn (wrap64 ((fD.man : Int) - ((n : Nat) : Int))) (wrap64 (e + ((t : Nat) : Int) - fD.low)) = ((p : Nat) : Int) := by
  rw [mn_min, w64 (x := (fD.man : Int) - ((n : Nat) : Int)) (by omega) (by omega), w64 (by omega) (by omega)]
  omega
 rw [eu, if_pos (by omega), el, hidden_f tD, Option.bind_some, hD, if_neg (by omega), binf_f tD, Option.bind_some, Option.bind_some]
 have eq : IntKind.u64.wrap ((IntKind.u64.wrap ((IntKind.u64.wrap ((IntKind.u64.wrap (wrap64 ((wrap64 ((wrap64 (e + ((t : Nat) : Int) - ((p : Nat) : Int))) - fD.low)) + 1))) - 1)) * ((2^52 : Nat) : Int))) + ((M : Nat) : Int)) = ((E * 2^52 + M : Nat) : Int) := by
  rw [w64 (x := e + ((t : Nat) : Int) - ((p : Nat) : Int)) (by omega) (by omega), w64 (x := e + ((t : Nat) : Int) - ((p : Nat) : Int) - fD.low) (by omega) (by omega), w64 (by omega) (by omega)]
  rw [wu64 (x := e + ((t : Nat) : Int) - ((p : Nat) : Int) - fD.low + 1) (by omega) (by omega), wu64 (x := e + ((t : Nat) : Int) - ((p : Nat) : Int) - fD.low + 1 - 1) (by omega) (by omega)]
  rw [show e + ((t : Nat) : Int) - ((p : Nat) : Int) - fD.low + 1 - 1 = ((E : Nat) : Int) by omega]
  rw [wu64 (x := ((E : Nat) : Int) * ((2^52 : Nat) : Int)) (by omega) (by omega), wu64 (by omega) (by omega)]
  omega
 rw [eq, if_neg (by omega), thr_made tD neg (by omega)]
 rfl
theorem widen_ev {a : Nat} (ha : a < 2 * fS.sg) : ∃ x, x < 2 * fD.sg ∧ rdB fD x = liftV KK (rdB fS a) ∧ Ev (fun k => binary_Widen.f k (a : Int)) ((x : Int), 0) := by
 have hz := tS.sz
 have hzD := tD.sz
 obtain ⟨ea, hs⟩ := pat_of ha (by omega)
 obtain ⟨s, es⟩ : ∃ s, s = a % fS.sg := ⟨_, rfl⟩
 obtain ⟨neg, en⟩ : ∃ neg, neg = decide (fS.sg ≤ a) := ⟨_, rfl⟩
 have hr : rdB fS a = rdV fS neg s := by rw [es, en]; rfl
 rw [← es, ← en] at ea
 rw [← es] at hs
 clear en es
 have inf : fS.inf = 2139095040 := rfl
 have sg : fS.sg = 2147483648 := rfl
 have hd : hdF fS = 8388608 := by decide
 have step : ∀ (x : Nat), Ev (fun k => (fun _ : Nat => (binary_shape_class.f (fS.wd : Nat) (fS.man : Nat) fS.low (fS.qt : Nat) (s : Int)).bind fun t3 => (if t3 = 4 then (some (((fD.qt : Nat) : Int), (0 : Int))) else (if t3 = 3 then ((binary_shape_inf.f (fD.wd : Nat) (fD.man : Nat) fD.low (fD.qt : Nat)).bind fun t4 => ((binary_shape_made.f (fD.wd : Nat) (fD.man : Nat) fD.low (fD.qt : Nat) neg t4).bind fun t5 => (some (t5, 0)))) else ((binary_shape_parts.f (fS.wd : Nat) (fS.man : Nat) fS.low (fS.qt : Nat) (s : Int)).bind fun bt6 => ((binary_Join.f 64 neg bt6.1 bt6.2).bind fun bt7 => (some (bt7.1, bt7.2))))))) k) ((x : Int), 0) → Ev (fun k => binary_Widen.f k (a : Int)) ((x : Int), 0) := fun x h => by
  unfold binary_Widen.f
  rw [ea]
  refine Ev.bind (take_pat tS neg hs) (Ev.congr (fun k => if_pos rfl) (Ev.bind (ev_eq (thr_shapeOf tD)) h))
 rw [hr]
 by_cases c0 : s = 0
 ·refine ⟨pat fD neg 0, pat_lt fD neg (by omega), ?_, step _ ?_⟩
  ·rw [rdB_nou tD]
   unfold rdV
   rw [if_pos c0]; rfl
  ·have ec : cl fS s = 0 := (cl_zero fS s).2 c0
   refine Ev.bind (ev_eq (class_f tS s)) ?_
   rw [ec]
   refine Ev.congr (fun k => if_neg (by decide)) (Ev.congr (fun k => if_neg (by decide)) (Ev.bind (ev_eq (parts_f tS s hs)) ?_))
   have m0 : mgF fS s = 0 := by rw [c0]; decide
   rw [m0]
   exact Ev.bind (ev_eq (join_nought neg _)) (Ev.now _)
 by_cases c1 : s < fS.inf
 ·have ml := mg_lt1 tS s
  rw [hd] at ml
  have dle : dF fS s ≤ 254 := by unfold dF; rw [hd]; omega
  have m0 : mgF fS s ≠ 0 := fun q => by
   have := nF_ne tS c0
   unfold nF at this
   rw [q, Nat.zero_mul] at this
   exact this rfl
  have xp := xp_d fS s
  have fl : fS.low = -149 := rfl
  obtain ⟨u, u1, u2, u3, u4⟩ := join_wide neg m0 (by omega) (e := xpF fS s) (by omega) (by omega)
  refine ⟨pat fD neg u, pat_lt fD neg (by omega), ?_, step _ ?_⟩
  ·rw [rdB_pat tD neg (by omega)]
   unfold rdV
   rw [if_neg u2, if_pos u1, if_neg c0, if_pos c1]
   have e : nF fD u = nF fS s * 2^KK := by
    rw [u3]
    unfold nF
    rw [Nat.mul_assoc, ← Nat.pow_add, show (xpF fS s + 1074).toNat = dF fS s + KK by have := KK_eq; omega]
   rw [e]
   show Vl.num (sv neg (nF fS s * 2^KK)) = Vl.num (sv neg (nF fS s) * ((2^KK : Nat) : Int))
   rw [sv_mul]
  ·have ec := (cl_fin tS s).2 c1
   refine Ev.bind (ev_eq (class_f tS s)) ?_
   refine Ev.congr (fun k => if_neg (by omega)) (Ev.congr (fun k => if_neg (by omega)) (Ev.bind (ev_eq (parts_f tS s hs)) ?_))
   exact Ev.bind (ev_eq u4) (Ev.now _)
 by_cases c2 : s = fS.inf
 ·refine ⟨pat fD neg fD.inf, pat_lt fD neg (by omega), ?_, step _ ?_⟩
  ·rw [rdB_inf tD]
   unfold rdV
   rw [if_neg c0, if_neg c1, if_pos c2]; rfl
  ·have ec : cl fS s = 3 := by unfold cl; rw [if_neg c0, if_neg (by omega), if_neg c1, if_pos c2]
   refine Ev.bind (ev_eq (class_f tS s)) ?_
   rw [ec]
   refine Ev.congr (fun k => if_neg (by decide)) (Ev.congr (fun k => if_pos rfl) (Ev.bind (ev_eq (binf_f tD)) (Ev.bind (ev_eq (thr_made tD neg (by omega))) (Ev.now _))))
 ·refine ⟨fD.qt, by decide, ?_, step _ ?_⟩
  ·rw [rd_quiet tD]
   unfold rdV
   rw [if_neg c0, if_neg c1, if_neg c2]; rfl
  ·have ec : cl fS s = 4 := by unfold cl; rw [if_neg c0, if_neg (by omega), if_neg c1, if_neg c2]
   refine Ev.bind (ev_eq (class_f tS s)) ?_
   rw [ec]
   exact Ev.congr (fun k => if_pos rfl) (Ev.now _)
theorem narrow_ev {b : Nat} (hb : b < 2 * fD.sg) : Ev (fun k => round_Narrow.f k (b : Int)) (((nar b : Nat) : Int), 0) := by
 have hz := tD.sz
 have hzS := tS.sz
 obtain ⟨eb, hs⟩ := pat_of hb (by omega)
 obtain ⟨s, es⟩ : ∃ s, s = b % fD.sg := ⟨_, rfl⟩
 obtain ⟨neg, en⟩ : ∃ neg, neg = decide (fD.sg ≤ b) := ⟨_, rfl⟩
 have hr : rdB fD b = rdV fD neg s := by rw [es, en]; rfl
 rw [← es, ← en] at eb
 rw [← es] at hs
 clear en es
 have sg : fD.sg = 9223372036854775808 := rfl
 have inf : fD.inf = 9218868437227405312 := rfl
 have hd : hdF fD = 4503599627370496 := by decide
 have e63 : (shr .u64 (b : Int) 63 == 1) = neg := by
  have := shr_small (k := .u64) (x := (b : Int)) (y := 63) rfl (by decide)
  rw [← this, eb]
  unfold pat
  cases neg
  ·rw [if_neg (by decide)]
   have : ((s : Nat) : Int) / 2^(63 : Int).toNat = 0 := by
    show ((s : Nat) : Int) / 9223372036854775808 = 0
    omega
   rw [this]; rfl
  ·rw [if_pos rfl]
   have : ((fD.sg + s : Nat) : Int) / 2^(63 : Int).toNat = 1 := by
    show ((fD.sg + s : Nat) : Int) / 9223372036854775808 = 1
    omega
   rw [this]; rfl
 unfold round_Narrow.f
 rw [e63]
 have ec := classOf_pat tD neg hs
 rw [← eb] at ec
 refine Ev.bind ec (Ev.bind (ev_eq (of_f tS)) ?_)
 unfold nar
 rw [hr]
 by_cases c0 : s = 0
 ·have e : cl fD s = 0 := (cl_zero fD s).2 c0
  rw [e]
  refine Ev.congr (fun k => if_neg (by decide)) (Ev.congr (fun k => if_neg (by decide)) (Ev.congr (fun k => if_pos rfl) ?_))
  have sf := signed_f tS neg (s := 0) (by omega)
  rw [show ((0 : Nat) : Int) = 0 from rfl] at sf
  refine Ev.bind (ev_eq sf) ?_
  unfold rdV
  rw [if_pos c0]
  exact Ev.now _
 by_cases c1 : s < fD.inf
 ·have e := (cl_fin tD s).2 c1
  have e0 : cl fD s ≠ 0 := fun q => c0 ((cl_zero fD s).1 q)
  refine Ev.congr (fun k => if_neg (by omega)) (Ev.congr (fun k => if_neg (by omega)) (Ev.congr (fun k => if_neg e0) ?_))
  obtain ⟨n, m, x, d, v⟩ := value_pat tD neg c1 (E := fD.low) (by decide) (Int.le_refl _)
  rw [← eb] at v
  refine Ev.bind v ?_
  have nv := nearest_ev tS d.dk (E := fD.low) d.le (by decide)
  refine Ev.bind nv ?_
  have kk := KK_eq
  have ek : (fS.low - fD.low).toNat = KK := by
   have : fS.low - fD.low = 925 := by decide
   omega
  rw [rnd_pv fS d.dk, d.va, ek, Int.sub_self]
  unfold rdV
  rw [if_neg c0, if_pos c1, show (0 : Int).toNat = 0 from rfl, Nat.pow_zero, Nat.mul_one]
  exact Ev.now _
 by_cases c2 : s = fD.inf
 ·have e : cl fD s = 3 := by unfold cl; rw [if_neg c0, if_neg (by omega), if_neg c1, if_pos c2]
  rw [e]
  refine Ev.congr (fun k => if_neg (by decide)) (Ev.congr (fun k => if_pos rfl) (Ev.bind (ev_eq (inf_f tS)) (Ev.bind (ev_eq (signed_f tS neg (by omega))) ?_)))
  unfold rdV
  rw [if_neg c0, if_neg c1, if_pos c2]
  exact Ev.now _
 ·have e : cl fD s = 4 := by unfold cl; rw [if_neg c0, if_neg (by omega), if_neg c1, if_neg c2]
  rw [e]
  refine Ev.congr (fun k => if_pos rfl) (Ev.bind (ev_eq (quiet_f tS)) ?_)
  unfold rdV
  rw [if_neg c0, if_neg c1, if_neg c2]
  exact Ev.now _
theorem turn_lift (g : Nat) (v : Vl) : turnV (liftV g v) = liftV g (turnV v) := by
 cases v with
 | num V => show Vl.num (-(V * _)) = Vl.num (-V * _); rw [Int.neg_mul]
 | nan => rfl
 | inf n => rfl
 | nou n => rfl
theorem quo_lt {F : Fmt} {f : Int} (h : Fm f F) {v w : Vl} {r : Nat} (q : QuoR F v w r) : r < 2 * F.sg := by
 have hz := h.sz
 have qt : F.qt < 2 * F.sg := by rcases h with ⟨_, rfl⟩ | ⟨_, rfl⟩ <;> decide
 have p : ∀ n s, s ≤ F.inf → pat F n s < 2 * F.sg := fun n s hs => pat_lt F n (by omega)
 cases v <;> cases w <;> first
  | (rw [show r = F.qt from q]; exact qt)
  | (obtain ⟨s, ns, rfl⟩ := q; exact p _ _ ns.le)
  | (rw [show r = pat F _ F.inf from q]; exact p _ _ (Nat.le_refl _))
  | (rw [show r = pat F _ 0 from q]; exact p _ _ (Nat.zero_le _))
theorem root_lt {F : Fmt} {f : Int} (h : Fm f F) {v : Vl} {r : Nat} (q : RootR F v r) : r < 2 * F.sg := by
 have hz := h.sz
 have qt : F.qt < 2 * F.sg := by rcases h with ⟨_, rfl⟩ | ⟨_, rfl⟩ <;> decide
 cases v with
 | nan => rw [show r = F.qt from q]; exact qt
 | inf n =>
  rw [show r = if n then F.qt else F.inf from q]
  cases n
  ·show F.inf < _; omega
  ·exact qt
 | nou n => rw [show r = pat F n 0 from q]; exact pat_lt F n (by omega)
 | num V =>
  rcases q with ⟨_, rfl⟩ | ⟨_, s, ns, rfl⟩
  ·exact qt
  ·have := ns.le; omega
theorem softThroughDouble_lev (a b : Nat) (ha : a < 4294967296) (hb : b < 4294967296) : Ev (fun k => gnomonlaw09_SoftThroughDouble.f k (a : Int) (b : Int)) true := by
 have sg : 2 * fS.sg = 4294967296 := rfl
 have sgD : 2 * fD.sg = 18446744073709551616 := rfl
 obtain ⟨x, x1, x2, x3⟩ := widen_ev (a := a) (by omega)
 obtain ⟨y, y1, y2, y3⟩ := widen_ev (a := b) (by omega)
 unfold gnomonlaw09_SoftThroughDouble.f
 rw [wu64 (x := (a : Int)) (by omega) (by omega), wu64 (x := (b : Int)) (by omega) (by omega)]
 have sa := add_ev tS (a := a) (b := b) (by omega) (by omega)
 have da := add_ev tD x1 y1
 have ss := sub_ev tS (a := a) (b := b) (by omega) (by omega)
 have ds := sub_ev tD x1 y1
 have sm := mul_ev tS (a := a) (b := b) (by omega) (by omega)
 have dm := mul_ev tD x1 y1
 obtain ⟨p4, q4, sd⟩ := div_ev tS (a := a) (b := b) (by omega) (by omega)
 obtain ⟨r4, s4, dd⟩ := div_ev tD x1 y1
 obtain ⟨p5, q5, sr⟩ := sqrt_ev tS (a := a) (by omega)
 obtain ⟨r5, s5, dr⟩ := sqrt_ev tD x1
 rw [x2, y2] at da ds dm
 rw [turn_lift] at ds
 have l4 := quo_lt tD s4
 have l5 := root_lt tD s5
 rw [x2, y2] at s4
 rw [x2] at s5
 have h1 := thru_sum (a := a) (b := b) _ _ rfl (.inl rfl)
 have h2 := thru_sum (a := a) (b := b) _ _ rfl (.inr rfl)
 have h3 := thru_mul (a := a) (b := b)
 have h4 := thru_div q4 s4
 have h5 := thru_root q5 s5
 have e149 : (-fS.low).toNat = 149 := by decide
 have e1074 : (-fD.low).toNat = 1074 := by decide
 rw [e149] at sm
 rw [e1074] at dm
 have n1 := narrow_ev (lt_tell tD 0 (plusV (liftV KK (rdB fS a)) (liftV KK (rdB fS b))))
 have n2 := narrow_ev (lt_tell tD 0 (plusV (liftV KK (rdB fS a)) (liftV KK (turnV (rdB fS b)))))
 have n3 := narrow_ev (lt_tell tD 1074 (timesV (liftV KK (rdB fS a)) (liftV KK (rdB fS b))))
 have n4 := narrow_ev l4
 have n5 := narrow_ev l5
 rw [h1] at n1
 rw [h2] at n2
 rw [h3] at n3
 rw [h4] at n4
 rw [h5] at n5
 refine Ev.bind thr_awake (Ev.congr (fun k => if_pos rfl) (Ev.bind x3 (Ev.bind y3 (Ev.congr (fun k => if_pos rfl) (Ev.congr (fun k => if_pos rfl) ?_)))))
 refine Ev.bind sa (Ev.bind da (Ev.bind n1 (Ev.congr (fun k => if_pos rfl) (Ev.congr (fun k => if_pos rfl) (Ev.congr (fun k => if_pos rfl) (Ev.congr (fun k => if_pos rfl) ?_))))))
 refine Ev.bind ss (Ev.bind ds (Ev.bind n2 (Ev.congr (fun k => if_pos rfl) (Ev.congr (fun k => if_pos rfl) (Ev.congr (fun k => if_pos rfl) (Ev.congr (fun k => if_pos rfl) ?_))))))
 refine Ev.bind sm (Ev.bind dm (Ev.bind n3 (Ev.congr (fun k => if_pos rfl) (Ev.congr (fun k => if_pos rfl) (Ev.congr (fun k => if_pos rfl) (Ev.congr (fun k => if_pos rfl) ?_))))))
 refine Ev.bind sd (Ev.bind dd (Ev.bind n4 (Ev.congr (fun k => if_pos rfl) (Ev.congr (fun k => if_pos rfl) (Ev.congr (fun k => if_pos rfl) (Ev.congr (fun k => if_pos rfl) ?_))))))
 exact Ev.bind sr (Ev.bind dr (Ev.bind n5 (Ev.congr (fun k => if_pos rfl) (Ev.congr (fun k => if_pos rfl) (Ev.congr (fun k => if_pos rfl) (Ev.congr (fun k => if_pos rfl) (Ev.now _)))))))
theorem softThroughDouble_lrow (a0 a1 : Int) (w0 : (Lit.int .u32 a0).wf = true) (w1 : (Lit.int .u32 a1).wf = true) : Ev (fun k => gnomonlaw09_SoftThroughDouble.f k a0 a1) true := by
 have e1 : IntKind.u32.min = 0 := rfl
 have e2 : IntKind.u32.max = 4294967295 := rfl
 have h0 : IntKind.u32.min ≤ a0 ∧ a0 ≤ IntKind.u32.max := by simpa [Lit.wf] using w0
 have h1 : IntKind.u32.min ≤ a1 ∧ a1 ≤ IntKind.u32.max := by simpa [Lit.wf] using w1
 obtain ⟨a, rfl⟩ : ∃ a : Nat, a0 = (a : Int) := ⟨a0.toNat, by omega⟩
 obtain ⟨b, rfl⟩ : ∃ b : Nat, a1 = (b : Int) := ⟨a1.toNat, by omega⟩
 exact softThroughDouble_lev a b (by omega) (by omega)
end Go.Proofs.YtokoadgahflafaaGreatDoor.SoftThroughDoubleL
