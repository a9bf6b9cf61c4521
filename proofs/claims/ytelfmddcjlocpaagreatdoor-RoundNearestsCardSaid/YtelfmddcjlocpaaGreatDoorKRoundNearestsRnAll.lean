/- The walk of layer 8's script loop: where each call of the kinds between returns true, the loop returns true. Conditions: the script's cells are as told; math/bits' table. -/
import Derived.Test.YtelfmddcjlocpaaGreatDoorKRoundNearestsRow8
import Derived.Deep.LoopGhost
import Derived.Test.YtelfmddcjlocpaaGreatDoorKRoundNearestsPxBr
namespace Go.Proofs.YtelfmddcjlocpaaGreatDoor.RnAll
open Go Go.RowKit Go.Proofs.YtelfmddcjlocpaaGreatDoorW.PrintWords Go.Proofs.YtelfmddcjlocpaaGreatDoorW.PrintMore Go.Proofs.YtelfmddcjlocpaaGreatDoorW.PrintLast Go.Proofs.YtelfmddcjlocpaaGreatDoor.GBase Go.Proofs.YtelfmddcjlocpaaGreatDoor.Px
def OnW (W : World) : Ending → World → Prop := fun e w' => e = .returned (.bool true) ∧ Below W.heap.size W w'
abbrev N0 : Nat → Prop := fun _ => False
theorem next {w w' : World} (d : Below w.heap.size w w') {x : PV} {v : Value} (h : RepV w N0 none' x v) : RepV w' N0 none' x v := RepV.ext (ext_below d _ _) h
structure El where
 kd : Int
 fm : Int
 na : Bool
 aa : Option Addr
 ln : Nat
 ca : Nat
 la : List Int
 ea : Int
 nb : Bool
 ab : Option Addr
 lm : Nat
 cb : Nat
 lb : List Int
 eb : Int
 wd : Nat
structure Ok (w : World) (t : El) : Prop where
 mk ::
 fm : (Lit.int .i64 t.fm).wf = true
 ra : RepV w N0 none' (.s (.sl .u64 t.la)) (.slice t.aa t.ln t.ca)
 wa : ∀ d ∈ t.la, 0 ≤ d ∧ d < 18446744073709551616
 sa : t.la.length ≤ 17592186044416
 ea : (Lit.int .i64 t.ea).wf = true
 rb : RepV w N0 none' (.s (.sl .u64 t.lb)) (.slice t.ab t.lm t.cb)
 wb : ∀ d ∈ t.lb, 0 ≤ d ∧ d < 18446744073709551616
 sb : t.lb.length ≤ 17592186044416
 eb : (Lit.int .i64 t.eb).wf = true
 wd : t.wd < 18446744073709551616
theorem Ok.next {w w' : World} {t : El} (h : Ok w t) (d : Below w.heap.size w w') : Ok w' t := ⟨h.fm, RnAll.next d h.ra, h.wa, h.sa, h.ea, RnAll.next d h.rb, h.wb, h.sb, h.eb, h.wd⟩
def PlaysOk (lo hi : Int) : Prop := ∀ (t : El) (w : World), Gw w → Ok w t → lo ≤ t.kd → t.kd ≤ hi →
 Calls Tryz.prog 65 #[.agg #[.int .i64 t.kd, .int .i64 t.fm, .bool t.na, .slice t.aa t.ln t.ca, .int .i64 t.ea, .bool t.nb, .slice t.ab t.lm t.cb, .int .i64 t.eb, .int .u64 t.wd]] w (OnW w)
structure At (W : World) (b o : Nat) (t : El) : Prop where
 mk ::
 h : W.cell? ⟨b, o, none⟩ = some (.int .i64 t.kd) ∧ W.cell? ⟨b, o + 1, none⟩ = some (.int .i64 t.fm) ∧ W.cell? ⟨b, o + 2, none⟩ = some (.bool t.na) ∧ W.cell? ⟨b, o + 3, none⟩ = some (.slice t.aa t.ln t.ca) ∧ W.cell? ⟨b, o + 4, none⟩ = some (.int .i64 t.ea) ∧ W.cell? ⟨b, o + 5, none⟩ = some (.bool t.nb) ∧ W.cell? ⟨b, o + 6, none⟩ = some (.slice t.ab t.lm t.cb) ∧ W.cell? ⟨b, o + 7, none⟩ = some (.int .i64 t.eb) ∧ W.cell? ⟨b, o + 8, none⟩ = some (.int .u64 t.wd)
 ok : Ok W t
theorem At.next {W w : World} {b o : Nat} {t : El} (h : At W b o t) (d : Below W.heap.size W w) : At w b o t := by
 obtain ⟨⟨a1, a2, a3, a4, a5, a6, a7, a8, a9⟩, ok⟩ := h
 have hb : b < W.heap.size := World.block_lt_of_cell? _ _ a1
 exact ⟨⟨by rw [d.cell (p := ⟨b, o, none⟩) hb]; exact a1, by rw [d.cell (p := ⟨b, o + 1, none⟩) hb]; exact a2, by rw [d.cell (p := ⟨b, o + 2, none⟩) hb]; exact a3, by rw [d.cell (p := ⟨b, o + 3, none⟩) hb]; exact a4, by rw [d.cell (p := ⟨b, o + 4, none⟩) hb]; exact a5, by rw [d.cell (p := ⟨b, o + 5, none⟩) hb]; exact a6, by rw [d.cell (p := ⟨b, o + 6, none⟩) hb]; exact a7, by rw [d.cell (p := ⟨b, o + 7, none⟩) hb]; exact a8, by rw [d.cell (p := ⟨b, o + 8, none⟩) hb]; exact a9⟩, ok.next d⟩
def Scr (W : World) (b o n : Nat) (t : Nat → El) : Prop := ∀ i, i < n → At W b (o + i * 9) (t i)
structure IW (W w : World) : Prop where mk :: (inv : Gw w) (below : Below W.heap.size W w)
set_option maxRecDepth 100000 in
set_option maxHeartbeats 4000000 in
theorem all_walk (b o n cap : Nat) (t : Nat → El) (lo hi : Int) (W : World) (hW : Gw W) (hn : 0 < n) (hn2 : n < 9000000000000000000) (hs : Scr W b o n t) (hp : PlaysOk lo hi) :
  Calls Tryz.prog 29 #[.slice (some ⟨b, o, none⟩) n cap, .int .i64 lo, .int .i64 hi] W (OnW W) := by
 have HS := Lib.hid hs
 have HP := Lib.hid hp
 have H0 := Lib.hid (IW.mk (W := W) hW (Below.refl _ _))
 clear hs hp hW
 go_enter Tryz.func29, Tryz.ntmps29
 go_wp2_with fail
 go_loopg [11] n (fun g i wr => ∃ k : Nat, k ≤ n ∧ g = n - k ∧ i = .int .i64 k ∧ IW W wr)
 case atStart => exact ⟨0, by omega, rfl, rfl, H0.out⟩
 case round =>
  obtain ⟨k, hk, rfl, rfl, hR⟩ := hrel
  have HR := Lib.hid hR
  clear hR H0
  by_cases hlt : k < n
  ·have HA := Lib.hid ((HS.out k hlt).next HR.out.below)
   obtain ⟨c1, c2, c3, c4, c5, c6, c7, c8, c9⟩ := HA.out.h
   generalize t k = T at *
   have hk2 : k + 1 ≤ n := hlt
   have hg1 : n - (k + 1) < n - k := by omega
   have bx := Lib.hid (box wr (Obj.cells #[.int .i64 T.kd, .int .i64 T.fm, .bool T.na, .slice T.aa T.ln T.ca, .int .i64 T.ea, .bool T.nb, .slice T.ab T.lm T.cb, .int .i64 T.eb, .int .u64 T.wd] 55))
   have HR2 := Lib.hid (IW.mk (Gw_next _ _ HR.out.inv bx.out) (on HR.out.below bx.out))
   have HA2 := Lib.hid (HA.out.ok.next bx.out)
   by_cases h1 : lo ≤ T.kd
   ·have d1 : decide (lo ≤ T.kd) = true := decide_eq_true h1
    by_cases h2 : T.kd ≤ hi
    ·have d2 : decide (T.kd ≤ hi) = true := decide_eq_true h2
     go_wp2_with fail
     refine (HP.out T _ HR2.out.inv HA2.out h1 h2).mono ?_
     rintro e1 v1 ⟨rfl, hd⟩
     have HNX : Hid (IW W v1) := Lib.hid ⟨Gw_next _ _ HR2.out.inv hd, on HR2.out.below hd⟩
     clear hd c1 c2 c3 c4 c5 c6 c7 c8 c9
     go_wp2_with fail
     go_roundg (n - (k + 1))
     case measure => exact hg1
     case rel => exact ⟨k + 1, hk2, rfl, rfl, HNX.out⟩
    ·have d2 : decide (T.kd ≤ hi) = false := decide_eq_false h2
     go_wp2_with fail
     go_roundg (n - (k + 1))
     case measure => exact hg1
     case rel => exact ⟨k + 1, hk2, rfl, rfl, HR2.out⟩
   ·have d1 : decide (lo ≤ T.kd) = false := decide_eq_false h1
    go_wp2_with fail
    go_roundg (n - (k + 1))
    case measure => exact hg1
    case rel => exact ⟨k + 1, hk2, rfl, rfl, HR2.out⟩
  ·obtain rfl : k = n := by omega
   have hltb : decide ((k : Int) < (k : Int)) = false := decide_eq_false (by omega)
   go_wp2_with fail
   go_ret
   exact ⟨rfl, HR.out.below⟩
theorem all_none (a : Option Addr) (cap : Nat) (lo hi : Int) (W : World) : Calls Tryz.prog 29 #[.slice a 0 cap, .int .i64 lo, .int .i64 hi] W (OnW W) := by
 go_enter Tryz.func29, Tryz.ntmps29
 go_wp2_with fail
 go_loopg [11] 0 (fun g i wr => g = 0 ∧ i = .int .i64 0 ∧ Below W.heap.size W wr)
 case atStart => exact ⟨rfl, rfl, Below.refl _ _⟩
 case round =>
  obtain ⟨rfl, rfl, hR⟩ := hrel
  go_wp2_with fail
  go_ret
  exact ⟨rfl, hR⟩
def IsOps (w : World) (a : Option Addr) (len : Nat) : Prop := len = 0 ∨ ∃ b o, a = some ⟨b, o, none⟩ ∧ ∀ i, i < len → ∃ t, At w b (o + i * 9) t
theorem all_any (a : Option Addr) (len cap : Nat) (lo hi : Int) (W w : World) (hs : IsOps W a len) (hd : Below W.heap.size W w) (hW : Gw w) (hn2 : len < 9000000000000000000)
  (hp : PlaysOk lo hi) : Calls Tryz.prog 29 #[.slice a len cap, .int .i64 lo, .int .i64 hi] w (OnW w) := by
 by_cases h0 : len = 0
 ·subst h0; exact all_none _ _ _ _ _
 rcases hs with h | ⟨b, o, rfl, h⟩
 ·exact absurd h h0
 have h' : ∀ i, ∃ t : El, i < len → At W b (o + i * 9) t := fun i => by
  by_cases hi : i < len
  ·obtain ⟨t, ht⟩ := h i hi; exact ⟨t, fun _ => ht⟩
  ·exact ⟨⟨0, 0, false, none, 0, 0, [], 0, false, none, 0, 0, [], 0, 0⟩, fun h => absurd h hi⟩
 obtain ⟨t, ht⟩ := Classical.skolem.1 h'
 exact all_walk b o len cap t lo hi w hW (by omega) hn2 (fun i hi => (ht i hi).next hd) hp
end Go.Proofs.YtelfmddcjlocpaaGreatDoor.RnAll
