/- The walk of the law BinaryRejoins: it returns true, and the world has at most new blocks. Condition: math/bits' table is laid. -/
import Derived.Test.YthpnmkclboennaaDoorKBinaryRejoinsBinRj
import Derived.Test.YthpnmkclboennaaDoorKBinaryRejoinsBinAwake
namespace Go.Proofs.YthpnmkclboennaaDoor.BinaryRejoinsW
open Go.RowKit Go.Proofs.YthpnmkclboennaaDoorW.PrintWords Go.Proofs.YthpnmkclboennaaDoorW.PrintMore Go.Proofs.YthpnmkclboennaaDoorW.PrintLast Go.Proofs.YthpnmkclboennaaDoor.Num Go.Proofs.YthpnmkclboennaaDoor.Ref Go.Proofs.YthpnmkclboennaaDoor.BinLaw Go.Proofs.YthpnmkclboennaaDoor.BinA Go.Proofs.YthpnmkclboennaaDoor.BinO2 Go.Proofs.YthpnmkclboennaaDoor.BinF Go.Proofs.YthpnmkclboennaaDoor.BinG Go.Proofs.YthpnmkclboennaaDoor.BinW Go.Proofs.YthpnmkclboennaaDoor.BinW2 Go.Proofs.YthpnmkclboennaaDoor.BinTab Go.Proofs.YthpnmkclboennaaDoor.BinM Go.Proofs.YthpnmkclboennaaDoor.BinM2 Go.Proofs.YthpnmkclboennaaDoor.BinV1 Go.Proofs.YthpnmkclboennaaDoor.BinAll Go.Proofs.YthpnmkclboennaaDoor.BinS Go.Proofs.YthpnmkclboennaaDoor.BinS2 Go.Proofs.YthpnmkclboennaaDoor.BinJ2 Go.Proofs.YthpnmkclboennaaDoor.BinJ4 Go.Proofs.YthpnmkclboennaaDoor.BinWL Go.Proofs.YthpnmkclboennaaDoor.BinNg Go.Proofs.YthpnmkclboennaaDoor.BinNg2 Go.Proofs.YthpnmkclboennaaDoor.BinNg3 Go.Proofs.YthpnmkclboennaaDoor.BinRj
structure DyQ (neg : Bool) (l : List Int) (x : Int) (w : World) (e : Ending) (w' : World) : Prop where mk :: (ex : ∃ A c, e = .returned (.tuple #[.agg #[.bool neg, .slice A l.length c, .int .i64 x], .int .i64 0]) ∧ DyL w' A c l ∧ DyP w' A c neg l x) (below : Below w.heap.size w w')
theorem odd_mod {n : Nat} (h0 : n ≠ 0) (hn : n < 18446744073709551616) : n / 2^(Lib.ctz 64 n) % 2 = 1 := by
  obtain ⟨m, hm, _⟩ := ctz_spec h0 hn
  generalize Lib.ctz 64 n = c at *
  have e : n / 2^c = 2 * m + 1 := by
    conv => lhs; lhs; rw [hm]
    rw [Nat.mul_div_cancel_left _ (Nat.two_pow_pos _)]
  omega
theorem dyq {neg : Bool} {n : Nat} {x : Int} {w w' : World} {e : Ending} (hn : n < 18446744073709551616) (lo : -900000 ≤ x) (hi : x ≤ 900000) (h : DyW (neg && decide (n ≠ 0)) (dyl n) (dyx n x) 0 w e w') : DyQ (neg && decide (n ≠ 0)) (dyl n) (dyx n x) w e w' := by
  obtain ⟨⟨A, c, e1, h1, h2, h3, h4⟩, hb⟩ := h
  refine ⟨⟨A, c, e1, ⟨h1, h2⟩, ?_⟩, hb⟩
  by_cases h0 : n = 0
  · subst h0
    obtain ⟨rfl, rfl⟩ := h4 rfl
    exact ⟨fun _ => ⟨rfl, rfl, by simp, rfl⟩, fun c => absurd rfl c, (by show (-1000000 : Int) ≤ 0; decide), (by show (0 : Int) ≤ 1000000; decide)⟩
  · obtain ⟨_, _, hc⟩ := ctz_spec h0 hn
    have ho := odd_ne h0 hn
    have hl : dyl n = [((n / 2^(Lib.ctz 64 n) : Nat) : Int)] := by unfold dyl; rw [if_neg h0]
    have hx : dyx n x = x + (Lib.ctz 64 n : Nat) := by unfold dyx; rw [if_neg h0]
    rw [hl] at h2 h3
    obtain ⟨G, rfl, _, rfl⟩ := h3 (by simp)
    rw [hl, hx]
    refine ⟨fun c => absurd c (by simp), fun _ => ⟨G, _, rfl, rfl, rfl, ?_, odd_mod h0 hn, ho.2⟩, by omega, by omega⟩
    obtain ⟨ad, e2, hcc⟩ := h2.2.2 (by simp)
    obtain ⟨cc, _, hk, hcell⟩ := hcc 0 _ rfl
    have hk' : cc = [.int .u64 ((n / 2^(Lib.ctz 64 n) : Nat) : Int)] := hk
    subst hk'
    have h1 := hcell 0 _ rfl
    obtain rfl := Option.some.inj e2
    have e : (⟨G, 0, none⟩ : Addr).add (0 * (Kd.int IntKind.u64).sz + 0) = ⟨G, 0, none⟩ := by unfold Addr.add; rw [if_pos (by simp)]
    rw [e] at h1
    exact ⟨h1⟩
theorem dyp_next {w w' : World} {A : Option Addr} {c : Nat} {neg : Bool} {l : List Int} {x : Int} (h : DyP w A c neg l x) (d : Below w.heap.size w w') : DyP w' A c neg l x :=
  ⟨h.nil, fun hl => let ⟨G, n, a, b, c, d1, e, f⟩ := h.one hl; ⟨G, n, a, b, c, d1.next d, e, f⟩, h.lo, h.hi⟩
set_option maxRecDepth 100000 in
set_option maxHeartbeats 1600000 in
theorem rej_err (f er : Int) (b : Nat) (HSp : ∀ w : World, Calls Tryd.prog 23 #[.int .i64 f, .int .u64 b] w fun e w' => e = .returned (.tuple #[.bool false, .int .u64 0, .int .i64 0, .int .i64 er]) ∧ Below w.heap.size w w')
    (HV : ∀ w, Calls Tryd.prog 13 #[.int .i64 f, .int .u64 b] w (DyE false [] 0 er w)) (HF : ∀ w : World, Calls Tryd.prog 20 #[.int .i64 f, .int .u64 b] w fun e w' => e = .returned (.bool false) ∧ Below w.heap.size w w')
    (h0 : er ≠ 0) (W : World) (hT : Tab W) : Calls Tryd.prog 5 #[.int .i64 f, .int .u64 b] W (OnW W) := by
  have HSp := Lib.hid HSp
  have HV := Lib.hid HV
  have HF := Lib.hid HF
  have T := Lib.hid hT
  have q1 : (er == 0) = false := by simpa using h0
  have q2 : (er != 0) = true := by simpa using h0
  clear hT h0
  go_enter Tryd.func5, Tryd.ntmps5
  go_wp2_with fail
  refine (BinAwake.awake_any _ T.out).mono ?_
  rintro e w1 ⟨rfl, h1⟩
  have HB := Lib.hid h1
  clear h1 T
  go_wp2_with fail
  refine (HF.out _).mono ?_
  rintro e w2 ⟨rfl, h1⟩
  have HB := Lib.hid (on HB.out h1)
  clear h1
  go_wp2_with fail
  refine (HSp.out _).mono ?_
  rintro e w3 ⟨rfl, h1⟩
  have HB := Lib.hid (on HB.out h1)
  clear h1
  go_wp2_with fail
  refine (HV.out _).mono ?_
  rintro e w4 ⟨⟨A, c, rfl, _⟩, h1⟩
  have HB := Lib.hid (on HB.out (on h1 (box w4 (Obj.cells #[.bool false, .slice A ([] : List Int).length c, .int .i64 0] 29))))
  clear h1
  go_wp2_with fail
  go_ret
  exact ⟨by simp, HB.out⟩
set_option maxRecDepth 100000 in
set_option maxHeartbeats 4000000 in
theorem rej_fin (f b b2 man x vx SG : Int) (neg ng ng2 : Bool) (l ml : List Int) (hl : l.length ≤ 1) (hml : ml.length ≤ 1)
    (HF : ∀ w : World, Calls Tryd.prog 20 #[.int .i64 f, .int .u64 b] w fun e w' => e = .returned (.bool true) ∧ Below w.heap.size w w')
    (HSp : ∀ w : World, Calls Tryd.prog 23 #[.int .i64 f, .int .u64 b] w fun e w' => e = .returned (.tuple #[.bool neg, .int .u64 man, .int .i64 x, .int .i64 0]) ∧ Below w.heap.size w w')
    (HJ : ∀ w : World, Tab w → Calls Tryd.prog 24 #[.int .i64 f, .bool neg, .int .u64 man, .int .i64 x] w fun e w' => e = .returned (.tuple #[.int .u64 b, .int .i64 0]) ∧ Below w.heap.size w w')
    (HG : ∀ w : World, Calls Tryd.prog 25 #[.int .i64 f] w fun e w' => e = .returned (.int .u64 SG) ∧ Below w.heap.size w w')
    (g1 : decide (SG ≤ b) = neg) (g2 : bits .xor .u64 b SG = b2) (g3 : (neg && (man != 0)) = ng) (g4 : (!ng2 && decide (l ≠ [])) = ng)
    (HV : ∀ w, Tab w → Calls Tryd.prog 13 #[.int .i64 f, .int .u64 b] w (DyE ng l vx 0 w))
    (HD : ∀ w : World, Calls Tryd.prog 27 #[.int .u64 man] w fun e w' => (∃ A c, e = .returned (.slice A ml.length c) ∧ ml.length ≤ c ∧ Kd.C (Kd.int .u64) w' A ml.length ml) ∧ Below w.heap.size w w')
    (HM : ∀ (A : Option Addr) (c : Nat) (w : World), Kd.C (Kd.int .u64) w A ml.length ml → Tab w → Calls Tryd.prog 26 #[.agg #[.bool ng, .slice A ml.length c], .int .i64 x] w (DyE ng l vx 0 w))
    (HU : ∀ w, Tab w → Calls Tryd.prog 13 #[.int .i64 f, .int .u64 b2] w (DyQ ng2 l vx w)) (W : World) (hT : Tab W) :
    Calls Tryd.prog 5 #[.int .i64 f, .int .u64 b] W (OnW W) := by
  have HF := Lib.hid HF
  have HSp := Lib.hid HSp
  have HJ := Lib.hid HJ
  have HG := Lib.hid HG
  have HV := Lib.hid HV
  have HD := Lib.hid HD
  have HM := Lib.hid HM
  have HU := Lib.hid HU
  have HN := Lib.hid (fun w A c (h : DyP w A c ng2 l vx) => neg_any ng2 l vx w h)
  rw [g4] at HN
  have HL := Lib.hid (And.intro hl hml)
  have T := Lib.hid hT
  clear hl hml hT g4
  have WALK : ∀ mz : Bool, (man != 0) = mz → Calls Tryd.prog 5 #[.int .i64 f, .int .u64 b] W (OnW W) := by
    intro mz hmz
    rw [hmz] at g3
    cases neg
    · obtain rfl : ng = false := by rw [← g3]; rfl
      clear g3 hmz
      go_enter Tryd.func5, Tryd.ntmps5
      go_wp2_with fail
      refine (BinAwake.awake_any _ T.out).mono ?_
      rintro e w1 ⟨rfl, h1⟩
      have HB := Lib.hid h1
      have T := Lib.hid (T.out.next h1)
      clear h1
      go_wp2_with fail
      refine (HF.out _).mono ?_
      rintro e w2 ⟨rfl, h1⟩
      have HB := Lib.hid (on HB.out h1)
      have T := Lib.hid (T.out.next h1)
      clear h1
      go_wp2_with fail
      refine (HSp.out _).mono ?_
      rintro e w3 ⟨rfl, h1⟩
      have HB := Lib.hid (on HB.out h1)
      have T := Lib.hid (T.out.next h1)
      clear h1
      go_wp2_with fail
      refine (HJ.out _ T.out).mono ?_
      rintro e w4 ⟨rfl, h1⟩
      have HB := Lib.hid (on HB.out h1)
      have T := Lib.hid (T.out.next h1)
      clear h1
      go_wp2_with fail
      refine (HG.out _).mono ?_
      rintro e w5 ⟨rfl, h1⟩
      have HB := Lib.hid (on HB.out h1)
      have T := Lib.hid (T.out.next h1)
      clear h1
      go_wp2_with fail
      refine (HV.out _ T.out).mono ?_
      rintro e w6 ⟨⟨A1, c1, rfl, L1⟩, h1⟩
      have bx := box w6 (Obj.cells #[.bool false, .slice A1 l.length c1, .int .i64 vx] 29)
      have HB := Lib.hid (on HB.out (on h1 bx))
      have T := Lib.hid ((T.out.next h1).next bx)
      have K1 := Lib.hid (blk_new w6 (Obj.cells #[.bool false, .slice A1 l.length c1, .int .i64 vx] 29))
      have L1 := Lib.hid (L1.next bx)
      clear h1 bx
      go_wp2_with fail
      refine (HD.out _).mono ?_
      rintro e w7 ⟨⟨A2, c2, rfl, hc2, L2⟩, h1⟩
      have HB := Lib.hid (on HB.out h1)
      have T := Lib.hid (T.out.next h1)
      have K1 := Lib.hid (blk_below K1.out h1)
      have L1 := Lib.hid (L1.out.next h1)
      have L2 := Lib.hid L2
      clear h1 hc2
      go_wp2_with fail
      refine (HM.out A2 c2 _ L2.out T.out).mono ?_
      rintro e w8 ⟨⟨A3, c3, rfl, L3⟩, h1⟩
      have bx := box w8 (Obj.cells #[.bool false, .slice A3 l.length c3, .int .i64 vx] 29)
      have HB := Lib.hid (on HB.out (on h1 bx))
      have T := Lib.hid ((T.out.next h1).next bx)
      have K1 := Lib.hid (blk_below (blk_below K1.out h1) bx)
      have K3 := Lib.hid (blk_new w8 (Obj.cells #[.bool false, .slice A3 l.length c3, .int .i64 vx] 29))
      have L1 := Lib.hid ((L1.out.next h1).next bx)
      have L3 := Lib.hid (L3.next bx)
      clear h1 bx L2
      go_wp2_with fail
      refine (HG.out _).mono ?_
      rintro e w9 ⟨rfl, h1⟩
      have HB := Lib.hid (on HB.out h1)
      have T := Lib.hid (T.out.next h1)
      have K1 := Lib.hid (blk_below K1.out h1)
      have K3 := Lib.hid (blk_below K3.out h1)
      have L1 := Lib.hid (L1.out.next h1)
      have L3 := Lib.hid (L3.out.next h1)
      clear h1
      go_wp2_with fail
      refine (HU.out _ T.out).mono ?_
      rintro e w10 ⟨⟨A4, c4, rfl, L4, P4⟩, h1⟩
      have bx := box w10 (Obj.cells #[.bool ng2, .slice A4 l.length c4, .int .i64 vx] 29)
      have HB := Lib.hid (on HB.out (on h1 bx))
      have K1 := Lib.hid (blk_below (blk_below K1.out h1) bx)
      have K3 := Lib.hid (blk_below (blk_below K3.out h1) bx)
      have L1 := Lib.hid ((L1.out.next h1).next bx)
      have L3 := Lib.hid ((L3.out.next h1).next bx)
      have P4 := Lib.hid (dyp_next P4 bx)
      clear h1 bx T L4
      go_wp2_with fail
      refine (HN.out _ _ _ P4.out).mono ?_
      rintro e w11 ⟨⟨A5, c5, rfl, L5⟩, h1⟩
      have bx := box w11 (Obj.cells #[.bool false, .slice A5 l.length c5, .int .i64 vx] 29)
      have HB := Lib.hid (on HB.out (on h1 bx))
      have K1 := Lib.hid (blk_below (blk_below K1.out h1) bx)
      have K3 := Lib.hid (blk_below (blk_below K3.out h1) bx)
      have K5 := Lib.hid (blk_new w11 (Obj.cells #[.bool false, .slice A5 l.length c5, .int .i64 vx] 29))
      have L1 := Lib.hid ((L1.out.next h1).next bx)
      have L3 := Lib.hid ((L3.out.next h1).next bx)
      have L5 := Lib.hid (L5.next bx)
      clear h1 bx P4
      have z0 : (w11.alloc (Obj.cells #[.bool false, .slice A5 l.length c5, .int .i64 vx] 29)).cell? ⟨w6.heap.size, 0, none⟩ = some (.bool false) := (blk_cell K1.out 0).trans rfl
      have z1 : (w11.alloc (Obj.cells #[.bool false, .slice A5 l.length c5, .int .i64 vx] 29)).cell? ⟨w6.heap.size, 1, none⟩ = some (.slice A1 l.length c1) := (blk_cell K1.out 1).trans rfl
      have z2 : (w11.alloc (Obj.cells #[.bool false, .slice A5 l.length c5, .int .i64 vx] 29)).cell? ⟨w6.heap.size, 2, none⟩ = some (.int .i64 vx) := (blk_cell K1.out 2).trans rfl
      have y0 : (w11.alloc (Obj.cells #[.bool false, .slice A5 l.length c5, .int .i64 vx] 29)).cell? ⟨w8.heap.size, 0, none⟩ = some (.bool false) := (blk_cell K3.out 0).trans rfl
      have y1 : (w11.alloc (Obj.cells #[.bool false, .slice A5 l.length c5, .int .i64 vx] 29)).cell? ⟨w8.heap.size, 1, none⟩ = some (.slice A3 l.length c3) := (blk_cell K3.out 1).trans rfl
      have y2 : (w11.alloc (Obj.cells #[.bool false, .slice A5 l.length c5, .int .i64 vx] 29)).cell? ⟨w8.heap.size, 2, none⟩ = some (.int .i64 vx) := (blk_cell K3.out 2).trans rfl
      go_wp2_with fail
      refine (same_any false l vx _ (by have := HL.out.1; omega) L1.out L3.out).mono ?_
      rintro e w13 ⟨rfl, h1⟩
      have HB := Lib.hid (on HB.out h1)
      have L1 := Lib.hid (L1.out.next h1)
      have L5 := Lib.hid (L5.out.next h1)
      have k1 := blk_below K1.out h1
      have k5 := blk_below K5.out h1
      have z0 : w13.cell? ⟨w6.heap.size, 0, none⟩ = some (.bool false) := (blk_cell k1 0).trans rfl
      have z1 : w13.cell? ⟨w6.heap.size, 1, none⟩ = some (.slice A1 l.length c1) := (blk_cell k1 1).trans rfl
      have z2 : w13.cell? ⟨w6.heap.size, 2, none⟩ = some (.int .i64 vx) := (blk_cell k1 2).trans rfl
      have y0 : w13.cell? ⟨w11.heap.size, 0, none⟩ = some (.bool false) := (blk_cell k5 0).trans rfl
      have y1 : w13.cell? ⟨w11.heap.size, 1, none⟩ = some (.slice A5 l.length c5) := (blk_cell k5 1).trans rfl
      have y2 : w13.cell? ⟨w11.heap.size, 2, none⟩ = some (.int .i64 vx) := (blk_cell k5 2).trans rfl
      clear h1 k1 k5 K1 K3 K5 L3
      go_wp2_with fail
      refine (same_any false l vx _ (by have := HL.out.1; omega) L1.out L5.out).mono ?_
      rintro e w14 ⟨rfl, h1⟩
      have HB := Lib.hid (on HB.out h1)
      clear h1 z0 z1 z2 y0 y1 y2
      go_wp2_with fail
      go_ret
      exact ⟨by simp, HB.out⟩
    · obtain rfl : ng = mz := by rw [← g3]; rfl
      clear g3
      go_enter Tryd.func5, Tryd.ntmps5
      go_wp2_with fail
      refine (BinAwake.awake_any _ T.out).mono ?_
      rintro e w1 ⟨rfl, h1⟩
      have HB := Lib.hid h1
      have T := Lib.hid (T.out.next h1)
      clear h1
      go_wp2_with fail
      refine (HF.out _).mono ?_
      rintro e w2 ⟨rfl, h1⟩
      have HB := Lib.hid (on HB.out h1)
      have T := Lib.hid (T.out.next h1)
      clear h1
      go_wp2_with fail
      refine (HSp.out _).mono ?_
      rintro e w3 ⟨rfl, h1⟩
      have HB := Lib.hid (on HB.out h1)
      have T := Lib.hid (T.out.next h1)
      clear h1
      go_wp2_with fail
      refine (HJ.out _ T.out).mono ?_
      rintro e w4 ⟨rfl, h1⟩
      have HB := Lib.hid (on HB.out h1)
      have T := Lib.hid (T.out.next h1)
      clear h1
      go_wp2_with fail
      refine (HG.out _).mono ?_
      rintro e w5 ⟨rfl, h1⟩
      have HB := Lib.hid (on HB.out h1)
      have T := Lib.hid (T.out.next h1)
      clear h1
      go_wp2_with fail
      refine (HV.out _ T.out).mono ?_
      rintro e w6 ⟨⟨A1, c1, rfl, L1⟩, h1⟩
      have bx := box w6 (Obj.cells #[.bool ng, .slice A1 l.length c1, .int .i64 vx] 29)
      have HB := Lib.hid (on HB.out (on h1 bx))
      have T := Lib.hid ((T.out.next h1).next bx)
      have K1 := Lib.hid (blk_new w6 (Obj.cells #[.bool ng, .slice A1 l.length c1, .int .i64 vx] 29))
      have L1 := Lib.hid (L1.next bx)
      clear h1 bx
      go_wp2_with fail
      refine (HD.out _).mono ?_
      rintro e w7 ⟨⟨A2, c2, rfl, hc2, L2⟩, h1⟩
      have HB := Lib.hid (on HB.out h1)
      have T := Lib.hid (T.out.next h1)
      have K1 := Lib.hid (blk_below K1.out h1)
      have L1 := Lib.hid (L1.out.next h1)
      have L2 := Lib.hid L2
      clear h1 hc2
      go_wp2_with fail
      refine (HM.out A2 c2 _ L2.out T.out).mono ?_
      rintro e w8 ⟨⟨A3, c3, rfl, L3⟩, h1⟩
      have bx := box w8 (Obj.cells #[.bool ng, .slice A3 l.length c3, .int .i64 vx] 29)
      have HB := Lib.hid (on HB.out (on h1 bx))
      have T := Lib.hid ((T.out.next h1).next bx)
      have K1 := Lib.hid (blk_below (blk_below K1.out h1) bx)
      have K3 := Lib.hid (blk_new w8 (Obj.cells #[.bool ng, .slice A3 l.length c3, .int .i64 vx] 29))
      have L1 := Lib.hid ((L1.out.next h1).next bx)
      have L3 := Lib.hid (L3.next bx)
      clear h1 bx L2
      go_wp2_with fail
      refine (HG.out _).mono ?_
      rintro e w9 ⟨rfl, h1⟩
      have HB := Lib.hid (on HB.out h1)
      have T := Lib.hid (T.out.next h1)
      have K1 := Lib.hid (blk_below K1.out h1)
      have K3 := Lib.hid (blk_below K3.out h1)
      have L1 := Lib.hid (L1.out.next h1)
      have L3 := Lib.hid (L3.out.next h1)
      clear h1
      go_wp2_with fail
      refine (HU.out _ T.out).mono ?_
      rintro e w10 ⟨⟨A4, c4, rfl, L4, P4⟩, h1⟩
      have bx := box w10 (Obj.cells #[.bool ng2, .slice A4 l.length c4, .int .i64 vx] 29)
      have HB := Lib.hid (on HB.out (on h1 bx))
      have K1 := Lib.hid (blk_below (blk_below K1.out h1) bx)
      have K3 := Lib.hid (blk_below (blk_below K3.out h1) bx)
      have L1 := Lib.hid ((L1.out.next h1).next bx)
      have L3 := Lib.hid ((L3.out.next h1).next bx)
      have P4 := Lib.hid (dyp_next P4 bx)
      clear h1 bx T L4
      go_wp2_with fail
      refine (HN.out _ _ _ P4.out).mono ?_
      rintro e w11 ⟨⟨A5, c5, rfl, L5⟩, h1⟩
      have bx := box w11 (Obj.cells #[.bool ng, .slice A5 l.length c5, .int .i64 vx] 29)
      have HB := Lib.hid (on HB.out (on h1 bx))
      have K1 := Lib.hid (blk_below (blk_below K1.out h1) bx)
      have K3 := Lib.hid (blk_below (blk_below K3.out h1) bx)
      have K5 := Lib.hid (blk_new w11 (Obj.cells #[.bool ng, .slice A5 l.length c5, .int .i64 vx] 29))
      have L1 := Lib.hid ((L1.out.next h1).next bx)
      have L3 := Lib.hid ((L3.out.next h1).next bx)
      have L5 := Lib.hid (L5.next bx)
      clear h1 bx P4
      have z0 : (w11.alloc (Obj.cells #[.bool ng, .slice A5 l.length c5, .int .i64 vx] 29)).cell? ⟨w6.heap.size, 0, none⟩ = some (.bool ng) := (blk_cell K1.out 0).trans rfl
      have z1 : (w11.alloc (Obj.cells #[.bool ng, .slice A5 l.length c5, .int .i64 vx] 29)).cell? ⟨w6.heap.size, 1, none⟩ = some (.slice A1 l.length c1) := (blk_cell K1.out 1).trans rfl
      have z2 : (w11.alloc (Obj.cells #[.bool ng, .slice A5 l.length c5, .int .i64 vx] 29)).cell? ⟨w6.heap.size, 2, none⟩ = some (.int .i64 vx) := (blk_cell K1.out 2).trans rfl
      have y0 : (w11.alloc (Obj.cells #[.bool ng, .slice A5 l.length c5, .int .i64 vx] 29)).cell? ⟨w8.heap.size, 0, none⟩ = some (.bool ng) := (blk_cell K3.out 0).trans rfl
      have y1 : (w11.alloc (Obj.cells #[.bool ng, .slice A5 l.length c5, .int .i64 vx] 29)).cell? ⟨w8.heap.size, 1, none⟩ = some (.slice A3 l.length c3) := (blk_cell K3.out 1).trans rfl
      have y2 : (w11.alloc (Obj.cells #[.bool ng, .slice A5 l.length c5, .int .i64 vx] 29)).cell? ⟨w8.heap.size, 2, none⟩ = some (.int .i64 vx) := (blk_cell K3.out 2).trans rfl
      go_wp2_with fail
      refine (same_any ng l vx _ (by have := HL.out.1; omega) L1.out L3.out).mono ?_
      rintro e w13 ⟨rfl, h1⟩
      have HB := Lib.hid (on HB.out h1)
      have L1 := Lib.hid (L1.out.next h1)
      have L5 := Lib.hid (L5.out.next h1)
      have k1 := blk_below K1.out h1
      have k5 := blk_below K5.out h1
      have z0 : w13.cell? ⟨w6.heap.size, 0, none⟩ = some (.bool ng) := (blk_cell k1 0).trans rfl
      have z1 : w13.cell? ⟨w6.heap.size, 1, none⟩ = some (.slice A1 l.length c1) := (blk_cell k1 1).trans rfl
      have z2 : w13.cell? ⟨w6.heap.size, 2, none⟩ = some (.int .i64 vx) := (blk_cell k1 2).trans rfl
      have y0 : w13.cell? ⟨w11.heap.size, 0, none⟩ = some (.bool ng) := (blk_cell k5 0).trans rfl
      have y1 : w13.cell? ⟨w11.heap.size, 1, none⟩ = some (.slice A5 l.length c5) := (blk_cell k5 1).trans rfl
      have y2 : w13.cell? ⟨w11.heap.size, 2, none⟩ = some (.int .i64 vx) := (blk_cell k5 2).trans rfl
      clear h1 k1 k5 K1 K3 K5 L3
      go_wp2_with fail
      refine (same_any ng l vx _ (by have := HL.out.1; omega) L1.out L5.out).mono ?_
      rintro e w14 ⟨rfl, h1⟩
      have HB := Lib.hid (on HB.out h1)
      clear h1 z0 z1 z2 y0 y1 y2
      go_wp2_with fail
      go_ret
      exact ⟨by simp, HB.out⟩
  exact WALK _ rfl
theorem fin_law {f : Int} {F : Fmt} (h : Fm f F) (b : Nat) (hb : b < 18446744073709551616) (w : World) : Calls Tryd.prog 20 #[.int .i64 f, .int .u64 b] w fun e w' => e = .returned (.bool (decide (b < 2 * F.sg ∧ b % F.sg < F.inf))) ∧ Below w.heap.size w w' :=
  (PFin.gnomonlaw07_finite.calls _ _ _ w (finite_f h b hb)).mono fun _ _ ⟨a, b⟩ => ⟨a, b.below⟩
theorem fin_no {f : Int} (h : f ≠ 32) (h' : f ≠ 64) (b : Nat) (w : World) : Calls Tryd.prog 20 #[.int .i64 f, .int .u64 b] w fun e w' => e = .returned (.bool false) ∧ Below w.heap.size w w' := by
  have e : PFin.gnomonlaw07_finite.f f (b : Int) = some false := by unfold PFin.gnomonlaw07_finite.f; rw [if_neg h, if_neg h']
  exact (PFin.gnomonlaw07_finite.calls _ _ _ w e).mono fun _ _ ⟨a, b⟩ => ⟨a, b.below⟩
theorem fin_or (f : Int) (b : Nat) (hb : b < 18446744073709551616) : (∃ F, Fm f F ∧ b < 2 * F.sg ∧ b % F.sg < F.inf ∧ ∀ w : World, Calls Tryd.prog 20 #[.int .i64 f, .int .u64 b] w fun e w' => e = .returned (.bool true) ∧ Below w.heap.size w w') ∨
    ∃ (er s0 s1 s2 s3 : Int), er ≠ 0 ∧ Ev (fun k => PLib.binary_finite.f k f (b : Int)) (s0, s1, s2, s3, false, 0, er) ∧ ∀ w : World, Calls Tryd.prog 20 #[.int .i64 f, .int .u64 b] w fun e w' => e = .returned (.bool false) ∧ Below w.heap.size w w' := by
  rcases fm_cases f with ⟨F, h⟩ | ⟨h, h'⟩
  · by_cases c : b < 2 * F.sg ∧ b % F.sg < F.inf
    · refine .inl ⟨F, h, c.1, c.2, fun w => ?_⟩
      have := fin_law h b hb w
      rw [decide_eq_true c] at this
      exact this
    · have hw : ∀ w : World, Calls Tryd.prog 20 #[.int .i64 f, .int .u64 b] w fun e w' => e = .returned (.bool false) ∧ Below w.heap.size w w' := by
        intro w
        have := fin_law h b hb w
        rw [decide_eq_false c] at this
        exact this
      by_cases d : b < 2 * F.sg
      · exact .inr ⟨6, _, _, _, _, by decide, finite_class h b d (by omega), hw⟩
      · exact .inr ⟨2, _, _, _, _, by decide, finite_bad h b hb (by omega), hw⟩
  · exact .inr ⟨1, _, _, _, _, by decide, finite_no h h' b, fun w => fin_no h h' b w⟩
theorem xp_range {f : Int} {F : Fmt} (h : Fm f F) {s : Nat} (hs : s < F.sg) : F.low ≤ xpF F s ∧ xpF F s ≤ F.low + 2100 := by
  have := q_le h hs
  rw [xp_d]
  unfold dF
  generalize s / hdF F = q at *
  omega
theorem Value_q {f : Int} {F : Fmt} (h : Fm f F) (b : Nat) (h2 : b < 2 * F.sg) (hi : b % F.sg < F.inf) (w : World) (hT : Tab w) :
    Calls Tryd.prog 13 #[.int .i64 f, .int .u64 b] w (DyQ (decide (F.sg ≤ b) && decide (mgF F (b % F.sg) ≠ 0)) (dyl (mgF F (b % F.sg))) (dyx (mgF F (b % F.sg)) (xpF F (b % F.sg))) w) := by
  have hz := h.sz
  have h53 := mg_lt53 h (b % F.sg)
  have e53 : (2 : Nat)^53 = 9007199254740992 := by decide
  have hlow := fm_low h
  have hx := xp_range h (s := b % F.sg) (by omega)
  exact (Value_ok h b h2 hi w hT).mono fun _ _ x => dyq (by omega) (by omega) (by omega) x
theorem walk_any (f b : Int) (W : World) (_wf : (Lit.int .i64 f).wf = true) (wb : (Lit.int .u64 b).wf = true) (hT : Tab W) : Calls Tryd.prog 5 #[.int .i64 f, .int .u64 b] W (OnW W) := by
  obtain ⟨b, rfl, hb⟩ := wf_u64' wb
  rcases fin_or f b hb with ⟨F, h, h2, hi, HF⟩ | ⟨er, s0, s1, s2, s3, h0, hE, HF⟩
  · have hz := h.sz
    have h53 := mg_lt53 h (b % F.sg)
    have e53 : (2 : Nat)^53 = 9007199254740992 := by decide
    have hlow := fm_low h
    have hx := xp_range h (s := b % F.sg) (by omega)
    obtain ⟨f1, f2, f3⟩ := flip_facts h h2
    have hlm : (lm (mgF F (b % F.sg))).length ≤ 1 := by
      by_cases c : mgF F (b % F.sg) = 0
      · rw [c, lm_zero]; simp
      · rw [lm_one c (by omega)]; simp
    refine rej_fin f (b : Int) (flip F b : Nat) (mgF F (b % F.sg) : Nat) (xpF F (b % F.sg)) (dyx (mgF F (b % F.sg)) (xpF F (b % F.sg))) (F.sg : Nat) (decide (F.sg ≤ b)) (decide (F.sg ≤ b) && decide (mgF F (b % F.sg) ≠ 0)) (!decide (F.sg ≤ b) && decide (mgF F (b % F.sg) ≠ 0)) (dyl (mgF F (b % F.sg))) (lm (mgF F (b % F.sg))) (dyl_len _) hlm HF (fun w => Split_ok h b h2 hi w) ?_ (fun w => sign_call h w) (decide_eq_decide.2 (by omega)) (xor_sg h h2 hb) ?_ ?_ ?_ (fun w => docword _ (by omega) w) (fun A c w hC hT => make_any _ _ A c _ w (by omega) hC (by omega) (by omega) hT) ?_ W hT
    · intro w hT
      have := Join_any h (decide (F.sg ≤ b)) (mgF F (b % F.sg)) (xpF F (b % F.sg)) (by omega) (by omega) (by omega) w hT
      rw [join_split h h2 hi] at this
      exact this
    · by_cases c : mgF F (b % F.sg) = 0
      · rw [c]; simp
      · have : (((mgF F (b % F.sg) : Nat) : Int) != 0) = true := by simpa using c
        rw [this, decide_eq_true c]
    · by_cases c : mgF F (b % F.sg) = 0
      · rw [c]; simp [dyl]
      · have : dyl (mgF F (b % F.sg)) ≠ [] := by unfold dyl; rw [if_neg c]; simp
        rw [decide_eq_true c, decide_eq_true this]
        simp
    · exact fun w hT => (Value_ok h b h2 hi w hT).mono fun _ _ x => dye x
    · intro w hT
      have := Value_q h (flip F b) f1 (by rw [f2]; exact hi) w hT
      rw [f2, f3] at this
      exact this
  · exact rej_err f er b (fun w => Split_err b hE h0 w) (fun w => (Value_err b hE h0 w).mono fun _ _ x => dye x) HF h0 W hT
end Go.Proofs.YthpnmkclboennaaDoor.BinaryRejoinsW
