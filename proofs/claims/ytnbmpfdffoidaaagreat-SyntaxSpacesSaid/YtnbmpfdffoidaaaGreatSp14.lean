/- Texts of the proof, joined: SynPx3, ValParse, ValRParse, SynRp. -/
import Derived.Test.YtnbmpfdffoidaaaGreatSp02
import Derived.Test.YtnbmpfdffoidaaaGreatSp04
import Derived.Test.YtnbmpfdffoidaaaGreatSp06
import Derived.Test.YtnbmpfdffoidaaaGreatSp10
import Derived.Test.YtnbmpfdffoidaaaGreatSp13
import Derived.IntWalk
import Derived.RegionTactic
import Derived.ChangeAlike
set_option linter.unusedVariables false
set_option linter.unusedSimpArgs false
set_option maxHeartbeats 8000000
set_option maxRecDepth 100000
namespace Go.Proofs.YtnbmpfdffoidaaaGreat.Y
open Go.RowKit O V S X
theorem arg_at {x : Ex} {A : Option Addr} {c : Nat} {p q r : Int} {S : Nat → Prop} {i g : Nat} {w : World} (hi : i < (parts x).length) (hg : g ≤ w.heap.size) (h : ExAt w S x A c) (hS : ∀ b, S b → b < g) :
  ∃ A' c' p' q' r', Arg g (exX x A c p q r) i (exX (parts x)[i] A' c' p' q' r') w ∧ ExAt w S (parts x)[i] A' c' := by
 obtain ⟨b, off, A', c', p', q', r', rfl, hb, hc, h3⟩ := h.part hS hi
 refine ⟨A', c', p', q', r', fun w' hw => ?_, h3⟩
 exact arg_raw _ _ _ _ _ _ _ _ _ _ b off (parts x).length c i rfl hi (by have := parts_len x; omega) _ _ _ _ _ _ _ A' _ c' p' q' r' w' (by have := hw.size; omega) (fun j hj => (hw.cell (p := ⟨b, off + i * 11 + j, none⟩) hb).trans (hc j hj))
theorem toksX_no {x : Ex} {least : Nat} (h : least ≤ lvlX x) : toksX x least = toks0 x := by unfold toksX br; rw [if_neg (by omega)]
theorem toksX_yes {x : Ex} {least : Nat} (h : lvlX x < least) : toksX x least = tg [40] :: (toks0 x ++ [tg [41]]) := by unfold toksX br; rw [if_pos h]
def PX0 (x : Ex) : Prop := ∀ least, least ≤ lvlX x → PX x least
theorem PX0.all {x : Ex} (hx : okX x) (h : PX0 x) : ∀ least, PX x least := by
 intro least
 by_cases hl : least ≤ lvlX x
 ·exact h least hl
 ·intro A c p q r g S w hat hS hg
  have h0 := h 0 (by omega) A c p q r g S w hat hS hg
  rw [toksX_no (by omega)] at h0
  rw [toksX_yes (by omega)]
  have := brk_raw (hdK x) (hdV x).k (hdV x).n (hdV x).s (hdN x) (hdC x) (hdO x : Nat) A (parts x).length c p q r g w (lvlX x) least (txts (toks0 x)) (fun w' => level_any x hx _ p q r w') (by omega) h0
  rw [txts_cons, txts_app]
  exact this
theorem px_any : ∀ x, okX x → ∀ least, PX x least :=
 Ex.ind fun x ih hx => by
  refine PX0.all hx fun least hl A c p q r g S w hat hS hg => ?_
  rw [toksX_no hl]
  have hlev : Lev (exX x A c p q r) (lvlX x) := fun w' => level_any x hx _ p q r w'
  cases x with
  | val v =>
   have h1 : v.s.length ≤ 1000000000 ∧ -9223372036854775808 ≤ v.n ∧ v.n ≤ 9223372036854775807 := by
    have hx : okV v := hx
    obtain ⟨k, n, s⟩ := v
    rcases right_cases hx.1 with ⟨e, e2⟩ | ⟨e, e2, e3⟩ | ⟨e, e2, e3⟩
    ·have := hx.2 e
     simp only at e2 this ⊢
     rw [e2]
     simp only [List.length_nil]
     omega
    ·simp only at e2 e3 ⊢
     rw [e2]
     simp only [List.length_nil]
     omega
    ·have := plain_len e3
     simp only at e2 this ⊢
     omega
   have := val_raw v.k v.n v.s [] [] 0 A 0 c p q r g w 7 least hlev hl h1.1 h1.2.1 h1.2.2
   have e : txts (toks0 (.val v)) = [printV ⟨v.k, v.n, v.s⟩] := by
    show [(tv v).2.1] = _
    rw [tv_text (show okV v from hx).1]
   rw [e]
   exact this
  | var n => exact var_raw 0 0 [] n [] 0 A 0 c p q r g w 7 least hlev hl
  | cell n col k =>
   obtain ⟨A', c', p', q', r', h1, h2⟩ := arg_at (p := p) (q := q) (r := r) (i := 0) (by simp [parts]) hg hat hS
   have hk := ih k (by simp [parts]) hx.2.2 0 A' c' p' q' r' g S w h2 hS hg
   rw [toksX_no (by omega)] at hk
   have := cell_raw 0 0 [] n col 0 A 1 c p q r g w 7 least _ _ hlev hl h1 (key_raw _ _ _ _ _ _ _ _ _ _ _ _ _ g w _ hk)
   have e : txts (toks0 (.cell n col k)) = n :: (([91] :: (txts (toks0 k) ++ [[93]])) ++ [[46], col]) := by
    rw [toks0]
    simp [txts, tw, tg]
   rw [e]
   exact this
  | un op a =>
   obtain ⟨A', c', p', q', r', h1, h2⟩ := arg_at (p := p) (q := q) (r := r) (i := 0) (by simp [parts]) hg hat hS
   have hk := ih a (by simp [parts]) hx.2 6 A' c' p' q' r' g S w h2 hS hg
   exact un_raw 0 0 [] [] [] A 1 c p q r g w op 6 least hx.1 _ _ hlev hl h1 hk
  | bin op a b =>
   obtain ⟨A', c', p', q', r', h1, h2⟩ := arg_at (p := p) (q := q) (r := r) (i := 0) (by simp [parts]) hg hat hS
   obtain ⟨A2, c2, p2, q2, r2, h3, h4⟩ := arg_at (p := p) (q := q) (r := r) (i := 1) (by simp [parts]) hg hat hS
   have hk := ih a (by simp [parts]) hx.2.1 (lvlS op) A' c' p' q' r' g S w h2 hS hg
   have hk2 := ih b (by simp [parts]) hx.2.2 (lvlS op + 1) A2 c2 p2 q2 r2 g S w h4 hS hg
   have := bin_raw 0 0 [] [] [] A 2 c p q r g w op (lvlS op) least hx.1 _ _ _ _ hlev hl h1 h3 hk hk2
   have e : txts (toks0 (.bin op a b)) = txts (toksX a (lvlS op)) ++ signS op :: txts (toksX b (lvlS op + 1)) := by
    rw [toks0]
    simp [txts, tg, toksX]
   rw [e]
   exact this
  | has n k =>
   have hc := prcall_any (.has n k) w_has A c p q r g S w hat hS hg fun y hy => ih y hy (by simp [parts] at hy; subst hy; exact hx.2) 0
   have := q4_raw 0 0 [] n [] 0 A 1 c p q r g w 7 least _ hlev hl hc
   have e : txts (toks0 (.has n k)) = callT w_has (.has n k) := by
    rw [toks0]
    simp [callT, argT, parts, hdK, hdN, txts, tw, tg]
   rw [e]
   exact this
  | sum n col a b =>
   have hc := prcall_any (.sum n col a b) w_sum A c p q r g S w hat hS hg fun y hy => ih y hy (by simp [parts] at hy; rcases hy with rfl | rfl; exact hx.2.2.1; exact hx.2.2.2) 0
   have := q5_raw 0 0 [] n col 0 A 2 c p q r g w 7 least _ hlev hl hc
   have e : txts (toks0 (.sum n col a b)) = callT w_sum (.sum n col a b) := by
    rw [toks0]
    simp [callT, argT, parts, hdK, hdN, hdC, txts, tw, tg]
   rw [e]
   exact this
  | cnt n a b =>
   have hc := prcall_any (.cnt n a b) w_count A c p q r g S w hat hS hg fun y hy => ih y hy (by simp [parts] at hy; rcases hy with rfl | rfl; exact hx.2.1; exact hx.2.2) 0
   have := q6_raw 0 0 [] n [] 0 A 2 c p q r g w 7 least _ hlev hl hc
   have e : txts (toks0 (.cnt n a b)) = callT w_count (.cnt n a b) := by
    rw [toks0]
    simp [callT, argT, parts, hdK, hdN, txts, tw, tg]
   rw [e]
   exact this
def textOf (l : List Tok) : List UInt8 := joinB (txts l)
theorem printExpr_any (x : Ex) (hx : okX x) (A : Option Addr) (c : Nat) (p q r : Int) (S : Nat → Prop) (w : World) (hat : ExAt w S x A c) (hS : ∀ b, S b → b < w.heap.size) (hlim : (toks0 x).length ≤ 1000000000) (hlen : (textOf (toks0 x)).length ≤ 140737488355328) :
  Calls Tryz.prog 11 #[exX x A c p q r] w fun e w' => e = .returned (sv (textOf (toks0 x))) ∧ Below w.heap.size w w' := by
 have hpx := px_any x hx 0
 have e0 : toksX x 0 = toks0 x := toksX_no (by omega)
 have hb1 : Below w.heap.size w ((w.alloc (exO (hdK x) (hdV x).k (hdV x).n (hdV x).s (hdN x) (hdC x) (hdO x : Nat) (.slice A (parts x).length c) p q r)).alloc (.cells #[.slice none 0 0] 80)) := by repeat (first | exact Below.refl _ _ | refine Below.alloc ?_ (by simp <;> omega) _)
 have hrun := hpx A c p q r (w.heap.size + 1) S _ (hat.keep fun b hb => hb1.block b (hS b hb)) (fun b hb => by have := hS b hb; omega) (by simp)
 have HR := Lib.hid hrun
 have HB := Lib.hid hb1
 clear hpx hrun hat hb1
 go_enter Tryz.func11, Tryz.ntmps11
 go_wp2_with fail
 refine (HR.out _ [] (Below.refl _ _) ⟨none, 0, 0, alloc_at (by simp), World.ownsRow_nil _ _ _ _⟩ (by rw [txts_len, e0]; simp; omega)).mono ?_; rintro e w2 ⟨rfl, p2, f2⟩
 rw [e0, List.nil_append] at p2
 have hlt := p2.lt
 obtain ⟨A2, n2, c2, h2, o2⟩ := p2
 have y0 : w2.cell? ⟨w.heap.size + 1, 0, none⟩ = some (.slice A2 n2 c2) := by rw [Lib.cell_of_heap h2]; rfl
 have hn2 : n2 ≤ 1000000000 := by have := o2.1; rw [List.length_map, txts_len] at this; omega
 have O2 := Lib.hid o2
 have F2 := Lib.hid f2
 clear o2 f2 h2
 go_wp2_with fail
 have hj := joinB_eq (txts (toks0 x))
 refine (join_rd (c := c2) (txts (toks0 x)) [32] (Rd.of_own O2.out) (own_cap O2.out) (by omega) (by rw [hj]; exact hlen)).mono ?_; rintro e w3 ⟨rfl, b3⟩
 go_wp2_with fail
 go_ret
 refine ⟨rfl, HB.out.trans ?_⟩
 have := F2.out.below (by simp)
 exact (this.mono (by omega)).trans (b3.mono (by have := F2.out.size; simp at this; omega))
end Go.Proofs.YtnbmpfdffoidaaaGreat.Y
namespace Go.Proofs.YtnbmpfdffoidaaaGreat.V
open Go.RowKit O
def resP (o : Option Val) : Value := match o with
 | none => .tuple #[vv ⟨0, 0, []⟩, .bool false]
 | some v => .tuple #[vv v, .bool true]
def PB (w : World) (B : Nat) (n : Int) (u : List UInt8) (W : World) : Prop :=
 W.heap[w.heap.size]? = some (.cells #[.int .i64 0, .int .i64 0, .string ⟨#[]⟩] 40 (0, 0)) ∧
 W.heap[B]? = some (.cells #[.int .i64 1, .int .i64 n, .string ⟨#[]⟩, .int .i64 2, .int .i64 1, .string ⟨#[]⟩, .int .i64 2, .int .i64 0, .string ⟨#[]⟩, .int .i64 3, .int .i64 0, .string ⟨u.toArray⟩] 40 (0, 0)) ∧ Below w.heap.size w W
theorem PB.next {w W W' : World} {B : Nat} {n : Int} {u : List UInt8} (h : PB w B n u W) (b : Below W.heap.size W W') : PB w B n u W' := ⟨box_next h.1 b, box_next h.2.1 b, bthen h.2.2 b⟩
theorem PB.cells {w W : World} {B : Nat} {n : Int} {u : List UInt8} (h : PB w B n u W) :
  ((W.cell? ⟨B, 0, none⟩ = some (.int .i64 1) ∧ W.cell? ⟨B, 1, none⟩ = some (.int .i64 n) ∧ W.cell? ⟨B, 2, none⟩ = some (.string ⟨#[]⟩)) ∧
  (W.cell? ⟨B, 3, none⟩ = some (.int .i64 2) ∧ W.cell? ⟨B, 4, none⟩ = some (.int .i64 1) ∧ W.cell? ⟨B, 5, none⟩ = some (.string ⟨#[]⟩))) ∧
  (W.cell? ⟨B, 6, none⟩ = some (.int .i64 2) ∧ W.cell? ⟨B, 7, none⟩ = some (.int .i64 0) ∧ W.cell? ⟨B, 8, none⟩ = some (.string ⟨#[]⟩)) ∧
  (W.cell? ⟨B, 9, none⟩ = some (.int .i64 3) ∧ W.cell? ⟨B, 10, none⟩ = some (.int .i64 0) ∧ W.cell? ⟨B, 11, none⟩ = some (.string ⟨u.toArray⟩)) := by
 refine ⟨⟨⟨?_, ?_, ?_⟩, ?_, ?_, ?_⟩, ⟨?_, ?_, ?_⟩, ?_, ?_, ?_⟩ <;> (rw [Lib.cell_of_heap h.2.1]; rfl)
end Go.Proofs.YtnbmpfdffoidaaaGreat.V
namespace Go.Proofs.YtnbmpfdffoidaaaGreat.V
open Go.RowKit O
theorem pow_step {a k : Nat} (h : a < 10 ^ (20 - k)) (h10 : 10 ≤ a) (hk : k ≤ 19) : k + 1 ≤ 19 ∧ a / 10 < 10 ^ (20 - (k + 1)) := by
 rcases Nat.lt_or_ge k 19 with h1 | h1
 ·refine ⟨by omega, ?_⟩
  rw [show 20 - k = (20 - (k + 1)) + 1 by omega, Nat.pow_succ] at h
  omega
 ·obtain rfl : k = 19 := by omega
  simp at h
  omega
theorem dig_step {N a : Nat} {t : List UInt8} (h : digN N = digN a ++ t) (h10 : 10 ≤ a) : digN N = digN (a / 10) ++ ([UInt8.ofNat (48 + a % 10)] ++ t) := by
 rw [h, digN_ge h10]; simp
theorem dig_end {N a : Nat} {t : List UInt8} (h : digN N = digN a ++ t) (h10 : a < 10) : digN N = [UInt8.ofNat (48 + a % 10)] ++ t := by
 rw [h, digN_lt h10, Nat.mod_eq_of_lt h10]
theorem strqR {W : World} {B n c : Nat} {A : Option Addr} {l : List UInt8} (h : Rd W B 1 A n (bv l)) : (convert 111 9 (.slice A n c)).run Tryz.prog W = .ok (.string ⟨l.toArray⟩) W :=
 run_str W Tryz.underlying111 Tryz.underlying5 Tryz.underlying9 h
theorem dig_q (d : Nat) (hd : d < 10) (w : World) : (convert 111 9 (.slice (some ⟨w.heap.size, 0, none⟩) 1 1)).run Tryz.prog (w.alloc (.cells #[.int .u8 (48 + (d : Int))] 5)) = .ok (.string ⟨[UInt8.ofNat (48 + d)].toArray⟩) (w.alloc (.cells #[.int .u8 (48 + (d : Int))] 5)) := by
 have : [Value.int .u8 (48 + (d : Int))] = bv [UInt8.ofNat (48 + d)] := by simp [bv]; omega
 have r : Rd (w.alloc (.cells #[.int .u8 (48 + (d : Int))] 5)) (w.heap.size + 1) 1 (some ⟨w.heap.size, 0, none⟩) 1 (bv [UInt8.ofNat (48 + d)]) := by rw [← this]; exact Rd.built w _ _
 exact strqR (c := 1) r
theorem dig_q0 (w : World) : (convert 111 9 (.slice (some ⟨w.heap.size, 0, none⟩) 1 1)).run Tryz.prog (w.alloc (.cells #[.int .u8 48] 5)) = .ok (.string ⟨[48].toArray⟩) (w.alloc (.cells #[.int .u8 48] 5)) :=
 strqR (c := 1) (l := [48]) (Rd.built w (.int .u8 48) 5)
theorem tmod_neg (a : Nat) : (-(a : Int)).tmod 10 = -((a % 10 : Nat) : Int) := by rw [Int.neg_tmod, Int.tmod_eq_emod_of_nonneg (by omega)]; omega
theorem tdiv_neg (a : Nat) : (-(a : Int)).tdiv 10 = -((a / 10 : Nat) : Int) := by rw [Int.neg_tdiv, Int.tdiv_eq_ediv_of_nonneg (by omega)]; omega
theorem rdec_any (n0 : Int) (w : World) (h1 : -9223372036854775808 ≤ n0) (h2 : n0 ≤ 9223372036854775807) : Calls Tryz.prog 41 #[.int .i64 n0] w fun e w' => e = .returned (.string ⟨(decL n0).toArray⟩) ∧ Below w.heap.size w w' := by
 go_enter Tryz.func41, Tryz.ntmps41
 go_wp2_with fail
 go_loopw [0, 3, 4, 5] (fun n s i _ wr => ∃ (x : Int) (k : Nat) (t : List UInt8), n = .int .i64 x ∧ s = .string ⟨t.toArray⟩ ∧ i = .int .i64 k ∧ Hid (digN n0.natAbs = digN x.natAbs ++ t) ∧ Hid (x.natAbs < 10 ^ (20 - k)) ∧ k ≤ 19 ∧ t.length ≤ k ∧ -9223372036854775808 ≤ x ∧ x ≤ 9223372036854775807 ∧ ((n0 < 0 ∧ x < 0) ∨ (0 ≤ n0 ∧ 0 ≤ x)) ∧ Below w.heap.size w wr) (fun _ _ i _ _ => 20 - (intOf i).toNat)
 case atStart => exact ⟨n0, 0, [], rfl, rfl, rfl, Lib.hid (by simp), Lib.hid (by simp; omega), by omega, by simp, h1, h2, by omega, Below.refl _ _⟩
 case round =>
  obtain ⟨x, k, t, rfl, rfl, rfl, H, HP, hk, htl, hx1, hx2, hsg, hb⟩ := hrel
  obtain ⟨a, ha⟩ : ∃ a, x.natAbs = a := ⟨_, rfl⟩
  rw [ha] at H HP
  obtain ⟨d, hd⟩ : ∃ d, a % 10 = d := ⟨_, rfl⟩
  obtain ⟨b, hb2⟩ : ∃ b, a / 10 = b := ⟨_, rfl⟩
  have hd10 : d < 10 := by omega
  have hq := fun w => dig_q d hd10 w
  obtain ⟨c, hc⟩ : ∃ c, UInt8.ofNat (48 + d) = c := ⟨_, rfl⟩
  rw [hc] at hq
  have hbb : (b : Int) ≤ 922337203685477580 := by omega
  have hlim : 1 + t.length ≤ 9223372036854775807 := by omega
  have hlim2 : 1 + (1 + t.length) ≤ 9223372036854775807 := by omega
  have hsz : (ByteArray.mk t.toArray).size = t.length := by simp [ByteArray.size]
  rcases hsg with ⟨n1, n2⟩ | ⟨n1, n2⟩
  ·obtain rfl : x = -(a : Int) := by omega
   have hfin : Hid (decL n0 = [45] ++ digN n0.natAbs) := Lib.hid (by unfold decL; rw [if_pos n1]; rfl)
   have e1 : (-(a : Int)).tmod 10 = -(d : Int) := by rw [tmod_neg, hd]
   have e2 : (-(a : Int)).tdiv 10 = -(b : Int) := by rw [tdiv_neg, hb2]
   have n3 : decide (-(a : Int) < 0) = true := by simp; omega
   by_cases h10 : 10 ≤ a
   ·have hs := Lib.hid (dig_step H.out h10)
    have hp := pow_step HP.out h10 hk
    rw [hd, hb2, hc] at hs
    have hb0 : 0 < b := by omega
    rw [hb2] at hp
    obtain ⟨hk1, hp1⟩ := hp
    have hp2 : Hid ((-(b : Int)).natAbs < 10 ^ (20 - (k + 1))) := Lib.hid (by rw [show (-(b : Int)).natAbs = b by omega]; exact hp1)
    have hs : Hid (digN n0.natAbs = digN (-(b : Int)).natAbs ++ ([c] ++ t)) := Lib.hid (by rw [show (-(b : Int)).natAbs = b by omega]; exact hs.out)
    clear hp1
    have g1 : decide (-(a : Int) > -10) = false := by simp; omega
    have hc48 : d = 0 → c = 48 := fun h => by rw [← hc, h]; rfl
    clear hd hb2 ha H HP hc
    by_cases hd0 : d = 0
    ·subst hd0
     have hq0 := fun w => dig_q0 w
     have e1 : (-(a : Int)).tmod 10 = 0 := e1
     clear hq
     obtain rfl : c = 48 := hc48 rfl
     go_wp2_with fail
     go_roundw
     case rel => exact ⟨-(b : Int), k + 1, [48] ++ t, rfl, by rw [ba_append], by go_num, hs, hp2, hk1, by simp; omega, by omega, by omega, by omega, by repeat (first | (with_reducible exact hb) | refine Below.alloc ?_ (by first | exact hb.size | (simp; have := hb.size; omega)) _)⟩
     case measure => simp [intOf]; omega
    ·have g0 : decide (-(d : Int) < 0) = true := by simp; omega
     go_wp2_with fail
     go_roundw
     case rel => exact ⟨-(b : Int), k + 1, _, rfl, by rw [ba_append], by go_num, hs, hp2, hk1, by simp; omega, by omega, by omega, by omega, by repeat (first | (with_reducible exact hb) | refine Below.alloc ?_ (by first | exact hb.size | (simp; have := hb.size; omega)) _)⟩
     case measure => simp [intOf]; omega
   ·have hs := Lib.hid (dig_end H.out (by omega))
    rw [hd, hc] at hs
    have hda : d = a := by omega
    subst hda
    have g0 : decide (-(d : Int) < 0) = true := by simp; omega
    have g1 : decide (-(d : Int) > -10) = true := by simp; omega
    have g2 : decide (-(d : Int) < 10) = true := by simp; omega
    clear hd hb2 ha H HP hc
    go_wp2_with fail
    go_ret
    rw [ba_append, ba_append]
    exact ⟨by rw [hfin.out, hs.out]; rfl, by repeat (first | (with_reducible exact hb) | refine Below.alloc ?_ (by first | exact hb.size | (simp; have := hb.size; omega)) _)⟩
  ·obtain rfl : x = (a : Int) := by omega
   have hfin : Hid (decL n0 = digN n0.natAbs) := Lib.hid (by unfold decL; rw [if_neg (by omega)])
   have e1 : (a : Int) % 10 = (d : Int) := by omega
   have e2 : (a : Int) / 10 = (b : Int) := by omega
   have n3 : decide ((a : Int) < 0) = false := by simp
   have g0 : decide ((d : Int) < 0) = false := by simp
   have g1 : decide ((a : Int) > -10) = true := by simp; omega
   by_cases h10 : 10 ≤ a
   ·have hs := Lib.hid (dig_step H.out h10)
    have hp := pow_step HP.out h10 hk
    rw [hd, hb2, hc] at hs
    have hb0 : 0 < b := by omega
    rw [hb2] at hp
    obtain ⟨hk1, hp1⟩ := hp
    have hp2 : Hid (((b : Int)).natAbs < 10 ^ (20 - (k + 1))) := Lib.hid (by rw [show ((b : Int)).natAbs = b by omega]; exact hp1)
    have hs : Hid (digN n0.natAbs = digN ((b : Int)).natAbs ++ ([c] ++ t)) := Lib.hid (by rw [show ((b : Int)).natAbs = b by omega]; exact hs.out)
    clear hp1
    have g2 : decide ((a : Int) < 10) = false := by simp; omega
    clear hd hb2 ha H HP hc
    go_wp2_with fail
    go_roundw
    case rel => exact ⟨(b : Int), k + 1, _, rfl, by rw [ba_append], by go_num, hs, hp2, hk1, by simp; omega, by omega, by omega, by omega, by repeat (first | (with_reducible exact hb) | refine Below.alloc ?_ (by first | exact hb.size | (simp; have := hb.size; omega)) _)⟩
    case measure => simp [intOf]; omega
   ·have hs := Lib.hid (dig_end H.out (by omega))
    rw [hd, hc] at hs
    have g2 : decide ((a : Int) < 10) = true := by simp; omega
    clear hd hb2 ha H HP hc
    go_wp2_with fail
    go_ret
    rw [ba_append]
    exact ⟨by rw [hfin.out, hs.out]; rfl, by repeat (first | (with_reducible exact hb) | refine Below.alloc ?_ (by first | exact hb.size | (simp; have := hb.size; omega)) _)⟩
theorem esc_ba {s : List UInt8} {k : Nat} (h : k < s.length) {c : UInt8} (hc : s[k] = c) : (ByteArray.mk s.toArray).extract k (k + 1) = ByteArray.mk [c].toArray := by
 apply ByteArray.ext
 subst hc
 apply Array.ext'
 simp [List.extract_eq_take_drop]
 rw [List.drop_eq_getElem_cons h]
 rfl
theorem rprint_any (v : Val) (w : World) (hs : v.s.length ≤ 100000000) (h1 : -9223372036854775808 ≤ v.n) (h2 : v.n ≤ 9223372036854775807) :
  Calls Tryz.prog 29 #[vv v] w fun e w' => e = .returned (.string ⟨(printV v).toArray⟩) ∧ Below w.heap.size w w' := by
 obtain ⟨k, m, s⟩ := v
 have hs' : (⟨k, m, s⟩ : Val).s.length ≤ 1000000000000 := by omega
 have hs2 : s.length ≤ 100000000 := hs
 clear hs
 have h1' : -9223372036854775808 ≤ m := h1
 have h2' : m ≤ 9223372036854775807 := h2
 clear h1 h2
 simp only [vv]
 cases hr : right ⟨k, m, s⟩
 ·have hp := Lib.hid (printV_no hr)
  go_enter Tryz.func29, Tryz.ntmps29
  go_wp2_with fail
  refine (rright_any ⟨k, m, s⟩ _ hs').mono ?_; rintro e w1 ⟨rfl, b1⟩
  rw [hr]
  have B1 : Below w.heap.size w w1 := bthen (by repeat (first | exact Below.refl _ _ | refine Below.alloc ?_ (by simp <;> omega) _)) b1
  go_wp2_with fail
  go_ret
  exact ⟨by rw [hp.out]; rfl, B1⟩
 ·rcases (show k = 1 ∨ (k = 2 ∧ s = [] ∧ (m = 0 ∨ m = 1)) ∨ (k = 3 ∧ m = 0) by rcases right_cases hr with ⟨e, _⟩ | ⟨e, e2, e3⟩ | ⟨e, e2, _⟩ <;> simp_all) with rfl | ⟨rfl, rfl, hm⟩ | ⟨rfl, rfl⟩
  ·have hp := Lib.hid (printV_one hr)
   go_enter Tryz.func29, Tryz.ntmps29
   go_wp2_with fail
   refine (rright_any ⟨1, m, s⟩ _ hs').mono ?_; rintro e w1 ⟨rfl, b1⟩
   rw [hr]
   have B1 : Below w.heap.size w w1 := bthen (by repeat (first | exact Below.refl _ _ | refine Below.alloc ?_ (by simp <;> omega) _)) b1
   have x : w1.heap[w.heap.size]? = some (.cells #[.int .i64 1, .int .i64 m, .string ⟨s.toArray⟩] 40 (0, 0)) := box_next (by repeat (first | (refine alloc_at ?_; simp; done) | refine alloc_old' ?_)) b1
   have xc0 : w1.cell? ⟨w.heap.size, 0, none⟩ = some (.int .i64 1) := by rw [Lib.cell_of_heap x]; rfl
   have xf0 : w1.frozen? ⟨w.heap.size, 0, none⟩ = false := Lib.frozen_of_heap x 0
   have xc1 : w1.cell? ⟨w.heap.size, 1, none⟩ = some (.int .i64 m) := by rw [Lib.cell_of_heap x]; rfl
   have xf1 : w1.frozen? ⟨w.heap.size, 1, none⟩ = false := Lib.frozen_of_heap x 1
   have xc2 : w1.cell? ⟨w.heap.size, 2, none⟩ = some (.string ⟨s.toArray⟩) := by rw [Lib.cell_of_heap x]; rfl
   have xf2 : w1.frozen? ⟨w.heap.size, 2, none⟩ = false := Lib.frozen_of_heap x 2
   go_wp2_with fail
   refine (rdec_any m _ h1' h2').mono ?_; rintro e w2 ⟨rfl, b2⟩
   go_wp2_with fail
   go_ret
   exact ⟨by rw [hp.out]; rfl, bthen B1 b2⟩
  ·have hp := Lib.hid (printV_two hr)
   rcases hm with rfl | rfl
   ·go_enter Tryz.func29, Tryz.ntmps29
    go_wp2_with fail
    refine (rright_any ⟨2, 0, []⟩ _ hs').mono ?_; rintro e w1 ⟨rfl, b1⟩
    rw [hr]
    have B1 : Below w.heap.size w w1 := bthen (by repeat (first | exact Below.refl _ _ | refine Below.alloc ?_ (by simp <;> omega) _)) b1
    have x : w1.heap[w.heap.size]? = some (.cells #[.int .i64 2, .int .i64 0, .string ⟨#[]⟩] 40 (0, 0)) := box_next (by repeat (first | (refine alloc_at ?_; simp; done) | refine alloc_old' ?_)) b1
    have xc0 : w1.cell? ⟨w.heap.size, 0, none⟩ = some (.int .i64 2) := by rw [Lib.cell_of_heap x]; rfl
    have xf0 : w1.frozen? ⟨w.heap.size, 0, none⟩ = false := Lib.frozen_of_heap x 0
    have xc1 : w1.cell? ⟨w.heap.size, 1, none⟩ = some (.int .i64 0) := by rw [Lib.cell_of_heap x]; rfl
    have xf1 : w1.frozen? ⟨w.heap.size, 1, none⟩ = false := Lib.frozen_of_heap x 1
    have xc2 : w1.cell? ⟨w.heap.size, 2, none⟩ = some (.string ⟨#[]⟩) := by rw [Lib.cell_of_heap x]; rfl
    have xf2 : w1.frozen? ⟨w.heap.size, 2, none⟩ = false := Lib.frozen_of_heap x 2
    go_wp2_with fail
    go_ret
    exact ⟨by rw [hp.out]; rfl, B1⟩
   ·go_enter Tryz.func29, Tryz.ntmps29
    go_wp2_with fail
    refine (rright_any ⟨2, 1, []⟩ _ hs').mono ?_; rintro e w1 ⟨rfl, b1⟩
    rw [hr]
    have B1 : Below w.heap.size w w1 := bthen (by repeat (first | exact Below.refl _ _ | refine Below.alloc ?_ (by simp <;> omega) _)) b1
    have x : w1.heap[w.heap.size]? = some (.cells #[.int .i64 2, .int .i64 1, .string ⟨#[]⟩] 40 (0, 0)) := box_next (by repeat (first | (refine alloc_at ?_; simp; done) | refine alloc_old' ?_)) b1
    have xc0 : w1.cell? ⟨w.heap.size, 0, none⟩ = some (.int .i64 2) := by rw [Lib.cell_of_heap x]; rfl
    have xf0 : w1.frozen? ⟨w.heap.size, 0, none⟩ = false := Lib.frozen_of_heap x 0
    have xc1 : w1.cell? ⟨w.heap.size, 1, none⟩ = some (.int .i64 1) := by rw [Lib.cell_of_heap x]; rfl
    have xf1 : w1.frozen? ⟨w.heap.size, 1, none⟩ = false := Lib.frozen_of_heap x 1
    have xc2 : w1.cell? ⟨w.heap.size, 2, none⟩ = some (.string ⟨#[]⟩) := by rw [Lib.cell_of_heap x]; rfl
    have xf2 : w1.frozen? ⟨w.heap.size, 2, none⟩ = false := Lib.frozen_of_heap x 2
    go_wp2_with fail
    go_ret
    exact ⟨by rw [hp.out]; rfl, B1⟩
  ·have hp := Lib.hid (printV_three hr)
   have hsz : (ByteArray.mk s.toArray).size = s.length := by simp [ByteArray.size]
   go_enter Tryz.func29, Tryz.ntmps29
   go_wp2_with fail
   refine (rright_any ⟨3, 0, s⟩ _ hs').mono ?_; rintro e w1 ⟨rfl, b1⟩
   rw [hr]
   have B1 : Below w.heap.size w w1 := bthen (by repeat (first | exact Below.refl _ _ | refine Below.alloc ?_ (by simp <;> omega) _)) b1
   have x : w1.heap[w.heap.size]? = some (.cells #[.int .i64 3, .int .i64 0, .string ⟨s.toArray⟩] 40 (0, 0)) := box_next (by repeat (first | (refine alloc_at ?_; simp; done) | refine alloc_old' ?_)) b1
   have xc0 : w1.cell? ⟨w.heap.size, 0, none⟩ = some (.int .i64 3) := by rw [Lib.cell_of_heap x]; rfl
   have xf0 : w1.frozen? ⟨w.heap.size, 0, none⟩ = false := Lib.frozen_of_heap x 0
   have xc1 : w1.cell? ⟨w.heap.size, 1, none⟩ = some (.int .i64 0) := by rw [Lib.cell_of_heap x]; rfl
   have xf1 : w1.frozen? ⟨w.heap.size, 1, none⟩ = false := Lib.frozen_of_heap x 1
   have xc2 : w1.cell? ⟨w.heap.size, 2, none⟩ = some (.string ⟨s.toArray⟩) := by rw [Lib.cell_of_heap x]; rfl
   have xf2 : w1.frozen? ⟨w.heap.size, 2, none⟩ = false := Lib.frozen_of_heap x 2
   clear b1 x
   go_wp2_with fail
   go_loop [3, 4] (fun t i => ∃ j : Nat, j ≤ s.length ∧ i = .int .i64 j ∧ t = .string ⟨([34] ++ escL (s.take j)).toArray⟩) (fun _ i => s.length - (intOf i).toNat)
   case atStart => exact ⟨0, by omega, rfl, by simp [escL]⟩
   case round =>
    obtain ⟨j, hj, rfl, rfl⟩ := hrel
    have hel : ([34] ++ escL (s.take j)).length ≤ 300000000 := by have := escL_len (s.take j); simp at this ⊢; omega
    by_cases hlt : j < s.length
    ·have hn := Lib.hid (esc_step hlt)
     obtain ⟨c, hc⟩ : ∃ c, s[j] = c := ⟨_, rfl⟩
     rw [hc] at hn
     have hn' : Hid ([34] ++ escL (s.take (j + 1)) = ([34] ++ escL (s.take j)) ++ esc c) := Lib.hid (by rw [hn.out]; simp)
     have hx := ba_at s j hlt hc
     have hex := esc_ba hlt hc
     clear hc
     generalize [34] ++ escL (s.take j) = t at *
     have ht : (ByteArray.mk t.toArray).size = t.length := by simp [ByteArray.size]
     have hlm1 : t.length + 1 ≤ 9223372036854775807 := by omega
     have hlm2 : t.length + 1 + 1 ≤ 9223372036854775807 := by omega
     by_cases h34 : c.toNat = 34 ∨ c.toNat = 92
     ·have he : Hid (esc c = [92, c]) := Lib.hid (by unfold esc; rw [if_pos h34])
      rcases h34 with h34 | h34
      ·have g1 : ((c.toNat : Int) == 34) = true := by simp; omega
       clear h34
       go_wp2_with fail
       go_round
       case rel => exact ⟨j + 1, by omega, by go_num, by rw [hn'.out, he.out]; simp only [ba_append, List.append_assoc] <;> rfl⟩
       case measure => simp [intOf]; omega
      ·have g1 : ((c.toNat : Int) == 34) = false := by simp; omega
       have g2 : ((c.toNat : Int) == 92) = true := by simp; omega
       clear h34
       go_wp2_with fail
       go_round
       case rel => exact ⟨j + 1, by omega, by go_num, by rw [hn'.out, he.out]; simp only [ba_append, List.append_assoc] <;> rfl⟩
       case measure => simp [intOf]; omega
     ·have he : Hid (esc c = [c]) := Lib.hid (by unfold esc; rw [if_neg h34])
      have g1 : ((c.toNat : Int) == 34) = false := by simp; omega
      have g2 : ((c.toNat : Int) == 92) = false := by simp; omega
      go_wp2_with fail
      go_round
      case rel => exact ⟨j + 1, by omega, by go_num, by rw [hn'.out, he.out]; simp only [ba_append, List.append_assoc] <;> rfl⟩
      case measure => simp [intOf]; omega
    ·obtain rfl : j = s.length := by omega
     rw [List.take_length] at hel ⊢
     have hpq : Hid (printV ⟨3, 0, s⟩ = ([34] ++ escL s) ++ [34]) := Lib.hid (by rw [hp.out]; simp [quoteL])
     generalize [34] ++ escL s = t at *
     have ht : (ByteArray.mk t.toArray).size = t.length := by simp [ByteArray.size]
     have hlm1 : t.length + 1 ≤ 9223372036854775807 := by omega
     go_wp2_with fail
     go_ret
     rw [ba_append]
     exact ⟨by rw [hpq.out]; rfl, B1⟩
def RetR (s : List UInt8) (w : World) (e : Ending) (w' : World) : Prop := ∃ u : Val, e = .returned (.tuple #[vv u, .bool (parseR s).isSome]) ∧ (∀ v, parseR s = some v → u = v) ∧ Below w.heap.size w w'
def RB (w : World) (done : List UInt8) (W : World) : Prop :=
 W.heap[w.heap.size]? = some (.cells #[.int .i64 0, .int .i64 0, .string ⟨#[]⟩] 40 (0, 0)) ∧
 W.heap[w.heap.size + 1]? = some (.cells #[.int .i64 3, .int .i64 0, .string ⟨done.toArray⟩] 40 (0, 0)) ∧ Below w.heap.size w W
end Go.Proofs.YtnbmpfdffoidaaaGreat.V
namespace Go.Proofs.YtnbmpfdffoidaaaGreat.Y
open Go.RowKit O V S X
def sp (l : List Tok) : List UInt8 := l.flatMap fun t => t.2.1 ++ [32]
theorem sp_nil : sp [] = [] := rfl
theorem sp_cons (t : Tok) (l : List Tok) : sp (t :: l) = t.2.1 ++ 32 :: sp l := by unfold sp; rw [List.flatMap_cons, List.append_assoc]; rfl
theorem sp_app (l m : List Tok) : sp (l ++ m) = sp l ++ sp m := by unfold sp; exact List.flatMap_append
theorem binds_any (op : Nat) (hop : 1 ≤ op ∧ op ≤ 12) (w : World) : Calls Tryz.prog 28 #[nv op] w fun e w' => e = .returned (nv (lvlS op)) ∧ w' = w := by
 have hk : op = 1 ∨ op = 2 ∨ op = 3 ∨ op = 4 ∨ op = 5 ∨ op = 6 ∨ op = 7 ∨ op = 8 ∨ op = 9 ∨ op = 10 ∨ op = 11 ∨ op = 12 := by omega
 rcases hk with rfl | rfl | rfl | rfl | rfl | rfl | rfl | rfl | rfl | rfl | rfl | rfl
 all_goals
  go_enter Tryz.func28, Tryz.ntmps28
  go_wp2_with fail
  go_ret
  exact ⟨rfl, rfl⟩
theorem rsign_any (op : Nat) (hop : 1 ≤ op ∧ op ≤ 12) (w : World) : Calls Tryz.prog 31 #[nv op] w fun e w' => e = .returned (sv (signS op)) ∧ w' = w := by
 have hk : op = 1 ∨ op = 2 ∨ op = 3 ∨ op = 4 ∨ op = 5 ∨ op = 6 ∨ op = 7 ∨ op = 8 ∨ op = 9 ∨ op = 10 ∨ op = 11 ∨ op = 12 := by omega
 rcases hk with rfl | rfl | rfl | rfl | rfl | rfl | rfl | rfl | rfl | rfl | rfl | rfl
 all_goals
  go_enter Tryz.func31, Tryz.ntmps31
  go_wp2_with fail
  go_ret
  exact ⟨rfl, rfl⟩
theorem part_raw (b off n c i : Nat) {z : Int} (hz : z = i) (hi : i < n) (hn : n ≤ 1000) (uk uvk uvn : Int) (us un uc : List UInt8) (uo : Int) (uA : Option Addr) (um ud : Nat) (up uq ur : Int) (w : World) (hb : b < w.heap.size)
  (hc : ∀ j, j < 11 → w.cell? ⟨b, off + i * 11 + j, none⟩ = [nv uk, nv uvk, nv uvn, sv us, sv un, sv uc, nv uo, .slice uA um ud, nv up, nv uq, nv ur][j]?) :
  Calls Tryz.prog 30 #[.slice (some ⟨b, off, none⟩) n c, .int .i64 z] w fun e w' => e = .returned (exVal uk uvk uvn us un uc uo (.slice uA um ud) up uq ur) ∧ Below w.heap.size w w' := by
 subst hz
 have y0 : w.cell? ⟨b, off + i * 11, none⟩ = some (nv uk) := hc 0 (by omega)
 have y1 : w.cell? ⟨b, off + i * 11 + 1, none⟩ = some (nv uvk) := hc 1 (by omega)
 have y2 : w.cell? ⟨b, off + i * 11 + 2, none⟩ = some (nv uvn) := hc 2 (by omega)
 have y3 : w.cell? ⟨b, off + i * 11 + 3, none⟩ = some (sv us) := hc 3 (by omega)
 have y4 : w.cell? ⟨b, off + i * 11 + 4, none⟩ = some (sv un) := hc 4 (by omega)
 have y5 : w.cell? ⟨b, off + i * 11 + 5, none⟩ = some (sv uc) := hc 5 (by omega)
 have y6 : w.cell? ⟨b, off + i * 11 + 6, none⟩ = some (nv uo) := hc 6 (by omega)
 have y7 : w.cell? ⟨b, off + i * 11 + 7, none⟩ = some (.slice uA um ud) := hc 7 (by omega)
 have y8 : w.cell? ⟨b, off + i * 11 + 8, none⟩ = some (nv up) := hc 8 (by omega)
 have y9 : w.cell? ⟨b, off + i * 11 + 9, none⟩ = some (nv uq) := hc 9 (by omega)
 have y10 : w.cell? ⟨b, off + i * 11 + 10, none⟩ = some (nv ur) := hc 10 (by omega)
 clear hc
 have hki : (i : Int) < (n : Int) := by omega
 go_enter Tryz.func30, Tryz.ntmps30
 go_wp2_with fail
 refine bodyPost_ret (v := exVal uk uvk uvn us un uc uo (.slice uA um ud) up uq ur) (by simp [results, Tryz.results30, go_sem]) rfl ?_
 refine ⟨rfl, ?_⟩
 repeat (first | (with_reducible exact Below.refl _ _) | (with_reducible assumption) | refine Below.setCell ?_ (by simp <;> omega) _ | refine Below.alloc ?_ (by simp <;> omega) _ | refine Below.drew ?_)
def RunE (f : Nat) (args : Array Value) (T : List UInt8) (w : World) : Prop := ∀ w', Below w.heap.size w w' → Calls Tryz.prog f args w' fun e w'' => e = .returned (sv T) ∧ Below w'.heap.size w' w''
def PartE (A : Value) (i : Int) (V : Value) (w : World) : Prop := ∀ w', Below w.heap.size w w' → Calls Tryz.prog 30 #[A, nv i] w' fun e w'' => e = .returned V ∧ Below w'.heap.size w' w''
section
variable (k vk vn : Int) (vs nm cc : List UInt8) (o : Int) (A : Option Addr) (m c : Nat) (p q r : Int) (w : World)
theorem rbrk_leaf (least : Nat) (T : List UInt8) (h7 : k ≠ 7) (h8 : k ≠ 8) (hl : 7 < least) (hT : T.length ≤ 1000000000)
  (h0 : RunE 14 #[exVal k vk vn vs nm cc o (.slice A m c) p q r, nv 0] T w) :
  RunE 14 #[exVal k vk vn vs nm cc o (.slice A m c) p q r, nv least] ([40, 32] ++ T ++ [41, 32]) w := by
 intro w' hbw
 have HW := Lib.hid hbw
 clear hbw
 have dl : (7 : Int) < (least : Int) := by omega
 have H0 := Lib.hid h0
 clear h0
 go_enter Tryz.func14, Tryz.ntmps14
 go_upto_region 1 with fail
 have BX : Hid ((w'.alloc (exO k vk vn vs nm cc o (.slice A m c) p q r)).heap[w'.heap.size]? = some (exB k vk vn vs nm cc o (.slice A m c) p q r)) := Lib.hid (alloc_at rfl)
 have FW : Hid (Below w'.heap.size w' (w'.alloc (exO k vk vn vs nm cc o (.slice A m c) p q r))) := Lib.hid one_new
 obtain ⟨w1, hw1⟩ : ∃ W, w'.alloc (exO k vk vn vs nm cc o (.slice A m c) p q r) = W := ⟨_, rfl⟩
 rw [hw1] at BX FW ⊢
 clear hw1
 obtain ⟨⟨⟨⟨x0, x1⟩, x2, x3⟩, ⟨x4, x5⟩, x6, x7⟩, ⟨x8, x9⟩, x10⟩ := cells11 BX.out
 go_wp2_with fail
 refine (H0.out w1 (bthen HW.out FW.out)).mono ?_; rintro e w2 ⟨rfl, b2⟩
 go_wp2_with fail
 go_ret
 refine ⟨?_, bthen FW.out b2⟩
 show Ending.returned (.string (ByteArray.mk [40, 32].toArray ++ ByteArray.mk T.toArray ++ ByteArray.mk [41, 32].toArray)) = _
 rw [ba_append, ba_append]
 simp
theorem rbrk_un (least : Nat) (T : List UInt8) (hl : 6 < least) (hT : T.length ≤ 1000000000)
  (h0 : RunE 14 #[exVal 7 vk vn vs nm cc o (.slice A m c) p q r, nv 0] T w) :
  RunE 14 #[exVal 7 vk vn vs nm cc o (.slice A m c) p q r, nv least] ([40, 32] ++ T ++ [41, 32]) w := by
 intro w' hbw
 have HW := Lib.hid hbw
 clear hbw
 have dl : (6 : Int) < (least : Int) := by omega
 have H0 := Lib.hid h0
 clear h0
 go_enter Tryz.func14, Tryz.ntmps14
 go_upto_region 1 with fail
 have BX : Hid ((w'.alloc (exO 7 vk vn vs nm cc o (.slice A m c) p q r)).heap[w'.heap.size]? = some (exB 7 vk vn vs nm cc o (.slice A m c) p q r)) := Lib.hid (alloc_at rfl)
 have FW : Hid (Below w'.heap.size w' (w'.alloc (exO 7 vk vn vs nm cc o (.slice A m c) p q r))) := Lib.hid one_new
 obtain ⟨w1, hw1⟩ : ∃ W, w'.alloc (exO 7 vk vn vs nm cc o (.slice A m c) p q r) = W := ⟨_, rfl⟩
 rw [hw1] at BX FW ⊢
 clear hw1
 obtain ⟨⟨⟨⟨x0, x1⟩, x2, x3⟩, ⟨x4, x5⟩, x6, x7⟩, ⟨x8, x9⟩, x10⟩ := cells11 BX.out
 go_wp2_with fail
 refine (H0.out w1 (bthen HW.out FW.out)).mono ?_; rintro e w2 ⟨rfl, b2⟩
 go_wp2_with fail
 go_ret
 refine ⟨?_, bthen FW.out b2⟩
 show Ending.returned (.string (ByteArray.mk [40, 32].toArray ++ ByteArray.mk T.toArray ++ ByteArray.mk [41, 32].toArray)) = _
 rw [ba_append, ba_append]
 simp
theorem rbrk_bin (op least : Nat) (hop : 1 ≤ op ∧ op ≤ 12) (T : List UInt8) (hl : lvlS op < least) (hT : T.length ≤ 1000000000)
  (h0 : RunE 14 #[exVal 8 vk vn vs nm cc op (.slice A m c) p q r, nv 0] T w) :
  RunE 14 #[exVal 8 vk vn vs nm cc op (.slice A m c) p q r, nv least] ([40, 32] ++ T ++ [41, 32]) w := by
 intro w' hbw
 have HW := Lib.hid hbw
 clear hbw
 have dl : ((lvlS op : Nat) : Int) < (least : Int) := by omega
 have H0 := Lib.hid h0
 clear h0
 go_enter Tryz.func14, Tryz.ntmps14
 go_upto_region 1 with fail
 have BX : Hid ((w'.alloc (exO 8 vk vn vs nm cc op (.slice A m c) p q r)).heap[w'.heap.size]? = some (exB 8 vk vn vs nm cc op (.slice A m c) p q r)) := Lib.hid (alloc_at rfl)
 have FW : Hid (Below w'.heap.size w' (w'.alloc (exO 8 vk vn vs nm cc op (.slice A m c) p q r))) := Lib.hid one_new
 obtain ⟨w1, hw1⟩ : ∃ W, w'.alloc (exO 8 vk vn vs nm cc op (.slice A m c) p q r) = W := ⟨_, rfl⟩
 rw [hw1] at BX FW ⊢
 clear hw1
 obtain ⟨⟨⟨⟨x0, x1⟩, x2, x3⟩, ⟨x4, x5⟩, x6, x7⟩, ⟨x8, x9⟩, x10⟩ := cells11 BX.out
 go_wp2_with fail
 refine (binds_any op hop _).mono ?_; rintro e w3 ⟨rfl, rfl⟩
 go_wp2_with fail
 refine (H0.out w3 (bthen HW.out FW.out)).mono ?_; rintro e w2 ⟨rfl, b2⟩
 go_wp2_with fail
 go_ret
 refine ⟨?_, bthen FW.out b2⟩
 show Ending.returned (.string (ByteArray.mk [40, 32].toArray ++ ByteArray.mk T.toArray ++ ByteArray.mk [41, 32].toArray)) = _
 rw [ba_append, ba_append]
 simp
theorem rval_raw (least : Nat) (hl : least ≤ 7) (hs : vs.length ≤ 100000000) (hv1 : -9223372036854775808 ≤ vn) (hv2 : vn ≤ 9223372036854775807) (hT : (printV ⟨vk, vn, vs⟩).length ≤ 1000000000) :
  RunE 14 #[exVal 1 vk vn vs nm cc o (.slice A m c) p q r, nv least] (printV ⟨vk, vn, vs⟩ ++ [32]) w := by
 intro w' hbw
 have HW := Lib.hid hbw
 clear hbw
 have dl : ¬ (7 : Int) < (least : Int) := by omega
 go_enter Tryz.func14, Tryz.ntmps14
 go_upto_region 1 with fail
 have BX : Hid ((w'.alloc (exO 1 vk vn vs nm cc o (.slice A m c) p q r)).heap[w'.heap.size]? = some (exB 1 vk vn vs nm cc o (.slice A m c) p q r)) := Lib.hid (alloc_at rfl)
 have FW : Hid (Below w'.heap.size w' (w'.alloc (exO 1 vk vn vs nm cc o (.slice A m c) p q r))) := Lib.hid one_new
 obtain ⟨w1, hw1⟩ : ∃ W, w'.alloc (exO 1 vk vn vs nm cc o (.slice A m c) p q r) = W := ⟨_, rfl⟩
 rw [hw1] at BX FW ⊢
 clear hw1
 obtain ⟨⟨⟨⟨x0, x1⟩, x2, x3⟩, ⟨x4, x5⟩, x6, x7⟩, ⟨x8, x9⟩, x10⟩ := cells11 BX.out
 go_wp2_with fail
 refine (rprint_any ⟨vk, vn, vs⟩ w1 hs hv1 hv2).mono ?_; rintro e w3 ⟨rfl, b3⟩
 go_wp2_with fail
 go_ret
 refine ⟨?_, bthen FW.out b3⟩
 show Ending.returned (.string (ByteArray.mk (printV ⟨vk, vn, vs⟩).toArray ++ ByteArray.mk [32].toArray)) = _
 rw [ba_append]
theorem rvar_raw (least : Nat) (hl : least ≤ 7) (hn : nm.length ≤ 1000000000) :
  RunE 14 #[exVal 2 vk vn vs nm cc o (.slice A m c) p q r, nv least] (nm ++ [32]) w := by
 intro w' hbw
 have HW := Lib.hid hbw
 clear hbw
 have dl : ¬ (7 : Int) < (least : Int) := by omega
 go_enter Tryz.func14, Tryz.ntmps14
 go_upto_region 1 with fail
 have BX : Hid ((w'.alloc (exO 2 vk vn vs nm cc o (.slice A m c) p q r)).heap[w'.heap.size]? = some (exB 2 vk vn vs nm cc o (.slice A m c) p q r)) := Lib.hid (alloc_at rfl)
 have FW : Hid (Below w'.heap.size w' (w'.alloc (exO 2 vk vn vs nm cc o (.slice A m c) p q r))) := Lib.hid one_new
 obtain ⟨w1, hw1⟩ : ∃ W, w'.alloc (exO 2 vk vn vs nm cc o (.slice A m c) p q r) = W := ⟨_, rfl⟩
 rw [hw1] at BX FW ⊢
 clear hw1
 obtain ⟨⟨⟨⟨x0, x1⟩, x2, x3⟩, ⟨x4, x5⟩, x6, x7⟩, ⟨x8, x9⟩, x10⟩ := cells11 BX.out
 go_wp2_with fail
 go_ret
 refine ⟨?_, FW.out⟩
 show Ending.returned (.string (ByteArray.mk nm.toArray ++ ByteArray.mk [32].toArray)) = _
 rw [ba_append]
theorem rcell_raw (least : Nat) (hl : least ≤ 7) (hn : nm.length ≤ 100000000) (hc : cc.length ≤ 100000000) (V : Value) (T : List UInt8) (hT : T.length ≤ 100000000) (hp : PartE (.slice A m c) 0 V w) (h0 : RunE 14 #[V, nv 0] T w) :
  RunE 14 #[exVal 3 vk vn vs nm cc o (.slice A m c) p q r, nv least] (nm ++ [32, 91, 32] ++ T ++ [93, 32, 46, 32] ++ cc ++ [32]) w := by
 intro w' hbw
 have HW := Lib.hid hbw
 clear hbw
 have dl : ¬ (7 : Int) < (least : Int) := by omega
 have H0 := Lib.hid h0
 have HP := Lib.hid hp
 clear h0 hp
 go_enter Tryz.func14, Tryz.ntmps14
 go_upto_region 1 with fail
 have BX : Hid ((w'.alloc (exO 3 vk vn vs nm cc o (.slice A m c) p q r)).heap[w'.heap.size]? = some (exB 3 vk vn vs nm cc o (.slice A m c) p q r)) := Lib.hid (alloc_at rfl)
 have FW : Hid (Below w'.heap.size w' (w'.alloc (exO 3 vk vn vs nm cc o (.slice A m c) p q r))) := Lib.hid one_new
 obtain ⟨w1, hw1⟩ : ∃ W, w'.alloc (exO 3 vk vn vs nm cc o (.slice A m c) p q r) = W := ⟨_, rfl⟩
 rw [hw1] at BX FW ⊢
 clear hw1
 obtain ⟨⟨⟨⟨x0, x1⟩, x2, x3⟩, ⟨x4, x5⟩, x6, x7⟩, ⟨x8, x9⟩, x10⟩ := cells11 BX.out
 go_wp2_with fail
 have BD : Below w1.heap.size w1 w1.drew := (Below.refl _ _).drew
 refine wp_region_sched [(0, true), (1, true), (2, true), (3, true), (4, true), (9, true), (10, true), (5, false), (6, false), (7, true), (8, true), (11, true), (12, true), (13, true)] (by kernel_rfl) (by kernel_rfl) (fun _ _ d _ _ h => by cases d <;> exact h) ?_
 refine swith (fun W hW => (cells11 (box_next BX.out ((Below.refl _ _).drew.trans hW.out)))) (fun qx => ?_)
 repeat (first | (refine sreadx rfl rfl ?_; apply Exists.intro; apply And.intro; (· (intro W hW; go_simp; try (first | with_reducible rfl | (rw [if_neg (by omega)]; try with_reducible rfl)))); simp only [Act.put, List.setIfInBounds_toArray, List.set_cons_zero, List.set_cons_succ]) | (refine sskip rfl rfl ?_; simp only [Act.put, List.setIfInBounds_toArray, List.set_cons_zero, List.set_cons_succ]))
 refine scall rfl rfl (fun K hK => ?_)
 go_simp
 refine (HP.out _ (bthen (bthen HW.out FW.out) BD)).mono ?_; rintro e w5 ⟨rfl, b5⟩
 go_wp2_with fail
 refine hK.out _ _ (by exact b5) ?_
 clear hK K
 try simp only [Act.put, List.setIfInBounds_toArray, List.set_cons_zero, List.set_cons_succ]
 replace qx := fun (W : World) (hW : Grow w5 W) => qx W (Grow.trans (b5) hW)
 have B5 := bthen BD b5
 repeat (first | (refine sreadx rfl rfl ?_; apply Exists.intro; apply And.intro; (· (intro W hW; go_simp; try (first | with_reducible rfl | (rw [if_neg (by omega)]; try with_reducible rfl)))); simp only [Act.put, List.setIfInBounds_toArray, List.set_cons_zero, List.set_cons_succ]) | (refine sskip rfl rfl ?_; simp only [Act.put, List.setIfInBounds_toArray, List.set_cons_zero, List.set_cons_succ]))
 refine scall rfl rfl (fun K hK => ?_)
 go_simp
 refine (H0.out _ (bthen (bthen HW.out FW.out) B5)).mono ?_; rintro e w6 ⟨rfl, b6⟩
 go_wp2_with fail
 refine hK.out _ _ (by exact b6) ?_
 clear hK K
 try simp only [Act.put, List.setIfInBounds_toArray, List.set_cons_zero, List.set_cons_succ]
 replace qx := fun (W : World) (hW : Grow w6 W) => qx W (Grow.trans (b6) hW)
 have B6 := bthen B5 b6
 repeat (first | (refine sreadx rfl rfl ?_; apply Exists.intro; apply And.intro; (· (intro W hW; go_simp; try (first | with_reducible rfl | (rw [if_neg (by omega)]; try with_reducible rfl)))); simp only [Act.put, List.setIfInBounds_toArray, List.set_cons_zero, List.set_cons_succ]) | (refine sskip rfl rfl ?_; simp only [Act.put, List.setIfInBounds_toArray, List.set_cons_zero, List.set_cons_succ]))
 refine sdone ?_
 go_wp2_with fail
 go_ret
 refine ⟨?_, bthen FW.out B6⟩
 show Ending.returned (.string (ByteArray.mk nm.toArray ++ ByteArray.mk [32, 91, 32].toArray ++ ByteArray.mk T.toArray ++ ByteArray.mk [93, 32, 46, 32].toArray ++ ByteArray.mk cc.toArray ++ ByteArray.mk [32].toArray)) = _
 rw [ba_append, ba_append, ba_append, ba_append, ba_append]
theorem run_raw (op least : Nat) (hop : op = 13 ∨ op = 14) (hl : least ≤ 6) (V : Value) (T : List UInt8) (hT : T.length ≤ 100000000) (hp : PartE (.slice A m c) 0 V w) (h0 : RunE 14 #[V, nv 6] T w) :
  RunE 14 #[exVal 7 vk vn vs nm cc op (.slice A m c) p q r, nv least] ((if op = 13 then [33, 32] else [45, 32]) ++ T) w := by
 intro w' hbw
 have HW := Lib.hid hbw
 clear hbw
 have dl : ¬ (6 : Int) < (least : Int) := by omega
 have H0 := Lib.hid h0
 have HP := Lib.hid hp
 clear h0 hp
 go_enter Tryz.func14, Tryz.ntmps14
 go_upto_region 1 with fail
 have BX : Hid ((w'.alloc (exO 7 vk vn vs nm cc op (.slice A m c) p q r)).heap[w'.heap.size]? = some (exB 7 vk vn vs nm cc op (.slice A m c) p q r)) := Lib.hid (alloc_at rfl)
 have FW : Hid (Below w'.heap.size w' (w'.alloc (exO 7 vk vn vs nm cc op (.slice A m c) p q r))) := Lib.hid one_new
 obtain ⟨w1, hw1⟩ : ∃ W, w'.alloc (exO 7 vk vn vs nm cc op (.slice A m c) p q r) = W := ⟨_, rfl⟩
 rw [hw1] at BX FW ⊢
 clear hw1
 obtain ⟨⟨⟨⟨x0, x1⟩, x2, x3⟩, ⟨x4, x5⟩, x6, x7⟩, ⟨x8, x9⟩, x10⟩ := cells11 BX.out
 rcases hop with rfl | rfl
 ·go_wp2_with fail
  refine (HP.out _ (bthen HW.out FW.out)).mono ?_; rintro e w5 ⟨rfl, b5⟩
  go_wp2_with fail
  refine (H0.out _ (bthen (bthen HW.out FW.out) b5)).mono ?_; rintro e w6 ⟨rfl, b6⟩
  go_wp2_with fail
  go_ret
  refine ⟨?_, bthen (bthen FW.out b5) b6⟩
  show Ending.returned (.string (ByteArray.mk [33, 32].toArray ++ ByteArray.mk T.toArray)) = _
  rw [ba_append]
  rfl
 ·go_wp2_with fail
  refine (HP.out _ (bthen HW.out FW.out)).mono ?_; rintro e w5 ⟨rfl, b5⟩
  go_wp2_with fail
  refine (H0.out _ (bthen (bthen HW.out FW.out) b5)).mono ?_; rintro e w6 ⟨rfl, b6⟩
  go_wp2_with fail
  go_ret
  refine ⟨?_, bthen (bthen FW.out b5) b6⟩
  show Ending.returned (.string (ByteArray.mk [45, 32].toArray ++ ByteArray.mk T.toArray)) = _
  rw [ba_append]
  rfl
theorem rbin_raw (op least lv1 : Nat) (hop : 1 ≤ op ∧ op ≤ 12) (hl : least ≤ lvlS op) (hlv1 : lv1 = lvlS op + 1) (V U : Value) (T T2 : List UInt8) (hT : T.length ≤ 100000000) (hT2 : T2.length ≤ 100000000) (hp : PartE (.slice A m c) 0 V w) (hp2 : PartE (.slice A m c) 1 U w)
  (h0 : RunE 14 #[V, nv (lvlS op)] T w) (h2 : RunE 14 #[U, nv lv1] T2 w) :
  RunE 14 #[exVal 8 vk vn vs nm cc op (.slice A m c) p q r, nv least] (T ++ signS op ++ [32] ++ T2) w := by
 intro w' hbw
 have HW := Lib.hid hbw
 clear hbw
 have dl : ¬ ((lvlS op : Nat) : Int) < (least : Int) := by omega
 have hsl : (signS op).length ≤ 2 := by
  have hk : op = 1 ∨ op = 2 ∨ op = 3 ∨ op = 4 ∨ op = 5 ∨ op = 6 ∨ op = 7 ∨ op = 8 ∨ op = 9 ∨ op = 10 ∨ op = 11 ∨ op = 12 := by omega
  rcases hk with rfl | rfl | rfl | rfl | rfl | rfl | rfl | rfl | rfl | rfl | rfl | rfl <;> decide
 have hlv := (lvlS_bound hop).2
 have hwr : IntKind.i64.wrap (((lvlS op : Nat) : Int) + 1) = (lv1 : Int) := by rw [IntWalk.i64_in _ (by omega)]; omega
 clear hlv1
 have H0 := Lib.hid h0
 have HP := Lib.hid hp
 have H2 := Lib.hid h2
 have HP2 := Lib.hid hp2
 clear h0 hp h2 hp2
 go_enter Tryz.func14, Tryz.ntmps14
 go_upto_region 1 with fail
 have BX : Hid ((w'.alloc (exO 8 vk vn vs nm cc op (.slice A m c) p q r)).heap[w'.heap.size]? = some (exB 8 vk vn vs nm cc op (.slice A m c) p q r)) := Lib.hid (alloc_at rfl)
 have FW : Hid (Below w'.heap.size w' (w'.alloc (exO 8 vk vn vs nm cc op (.slice A m c) p q r))) := Lib.hid one_new
 obtain ⟨w1, hw1⟩ : ∃ W, w'.alloc (exO 8 vk vn vs nm cc op (.slice A m c) p q r) = W := ⟨_, rfl⟩
 rw [hw1] at BX FW ⊢
 clear hw1
 obtain ⟨⟨⟨⟨x0, x1⟩, x2, x3⟩, ⟨x4, x5⟩, x6, x7⟩, ⟨x8, x9⟩, x10⟩ := cells11 BX.out
 go_wp2_with fail
 refine (binds_any op hop _).mono ?_; rintro e w3 ⟨rfl, rfl⟩
 go_wp2_with fail
 obtain ⟨w1, hw1⟩ : ∃ w1, w1 = w3 := ⟨_, rfl⟩
 subst hw1
 have BD : Below w1.heap.size w1 w1.drew := (Below.refl _ _).drew
 refine wp_region_sched [(0, true), (1, true), (3, true), (5, true), (6, true), (10, true), (11, true), (13, true), (14, true), (2, false), (4, false), (7, false), (8, true), (9, true), (12, false), (15, false), (16, true), (17, true)] (by kernel_rfl) (by kernel_rfl) (fun _ _ d _ _ h => by cases d <;> exact h) ?_
 refine swith (fun W hW => (cells11 (box_next BX.out ((Below.refl _ _).drew.trans hW.out)))) (fun qx => ?_)
 repeat (first | (refine sreadx rfl rfl ?_; apply Exists.intro; apply And.intro; (· (intro W hW; go_simp; try (first | with_reducible rfl | (rw [if_neg (by omega)]; try with_reducible rfl)))); simp only [Act.put, List.setIfInBounds_toArray, List.set_cons_zero, List.set_cons_succ]) | (refine sskip rfl rfl ?_; simp only [Act.put, List.setIfInBounds_toArray, List.set_cons_zero, List.set_cons_succ]))
 refine scall rfl rfl (fun K hK => ?_)
 go_simp
 refine (HP.out _ (bthen (bthen HW.out FW.out) BD)).mono ?_; rintro e w5 ⟨rfl, b5⟩
 go_wp2_with fail
 refine hK.out _ _ (by exact b5) ?_
 clear hK K
 try simp only [Act.put, List.setIfInBounds_toArray, List.set_cons_zero, List.set_cons_succ]
 replace qx := fun (W : World) (hW : Grow w5 W) => qx W (Grow.trans (b5) hW)
 have B5 := bthen BD b5
 repeat (first | (refine sreadx rfl rfl ?_; apply Exists.intro; apply And.intro; (· (intro W hW; go_simp; try (first | with_reducible rfl | (rw [if_neg (by omega)]; try with_reducible rfl)))); simp only [Act.put, List.setIfInBounds_toArray, List.set_cons_zero, List.set_cons_succ]) | (refine sskip rfl rfl ?_; simp only [Act.put, List.setIfInBounds_toArray, List.set_cons_zero, List.set_cons_succ]))
 refine scall rfl rfl (fun K hK => ?_)
 go_simp
 refine (H0.out _ (bthen (bthen HW.out FW.out) B5)).mono ?_; rintro e w6 ⟨rfl, b6⟩
 go_wp2_with fail
 refine hK.out _ _ (by exact b6) ?_
 clear hK K
 try simp only [Act.put, List.setIfInBounds_toArray, List.set_cons_zero, List.set_cons_succ]
 replace qx := fun (W : World) (hW : Grow w6 W) => qx W (Grow.trans (b6) hW)
 have B6 := bthen B5 b6
 repeat (first | (refine sreadx rfl rfl ?_; apply Exists.intro; apply And.intro; (· (intro W hW; go_simp; try (first | with_reducible rfl | (rw [if_neg (by omega)]; try with_reducible rfl)))); simp only [Act.put, List.setIfInBounds_toArray, List.set_cons_zero, List.set_cons_succ]) | (refine sskip rfl rfl ?_; simp only [Act.put, List.setIfInBounds_toArray, List.set_cons_zero, List.set_cons_succ]))
 refine scall rfl rfl (fun K hK => ?_)
 go_simp
 refine (rsign_any op hop _).mono ?_; rintro e w7 ⟨rfl, rfl⟩
 go_wp2_with fail
 refine hK.out _ _ (by exact (Grow.refl _)) ?_
 clear hK K
 try simp only [Act.put, List.setIfInBounds_toArray, List.set_cons_zero, List.set_cons_succ]
 repeat (first | (refine sreadx rfl rfl ?_; apply Exists.intro; apply And.intro; (· (intro W hW; go_simp; try (first | with_reducible rfl | (rw [if_neg (by omega)]; try with_reducible rfl)))); simp only [Act.put, List.setIfInBounds_toArray, List.set_cons_zero, List.set_cons_succ]) | (refine sskip rfl rfl ?_; simp only [Act.put, List.setIfInBounds_toArray, List.set_cons_zero, List.set_cons_succ]))
 refine scall rfl rfl (fun K hK => ?_)
 go_simp
 refine (HP2.out _ (bthen (bthen HW.out FW.out) B6)).mono ?_; rintro e w8 ⟨rfl, b8⟩
 go_wp2_with fail
 refine hK.out _ _ (by exact b8) ?_
 clear hK K
 try simp only [Act.put, List.setIfInBounds_toArray, List.set_cons_zero, List.set_cons_succ]
 replace qx := fun (W : World) (hW : Grow w8 W) => qx W (Grow.trans (b8) hW)
 have B8 := bthen B6 b8
 repeat (first | (refine sreadx rfl rfl ?_; apply Exists.intro; apply And.intro; (· (intro W hW; go_simp; try (first | with_reducible rfl | (rw [if_neg (by omega)]; try with_reducible rfl)))); simp only [Act.put, List.setIfInBounds_toArray, List.set_cons_zero, List.set_cons_succ]) | (refine sskip rfl rfl ?_; simp only [Act.put, List.setIfInBounds_toArray, List.set_cons_zero, List.set_cons_succ]))
 refine scall rfl rfl (fun K hK => ?_)
 go_simp
 refine (H2.out _ (bthen (bthen HW.out FW.out) B8)).mono ?_; rintro e w9 ⟨rfl, b9⟩
 go_wp2_with fail
 refine hK.out _ _ (by exact b9) ?_
 clear hK K
 try simp only [Act.put, List.setIfInBounds_toArray, List.set_cons_zero, List.set_cons_succ]
 replace qx := fun (W : World) (hW : Grow w9 W) => qx W (Grow.trans (b9) hW)
 have B9 := bthen B8 b9
 repeat (first | (refine sreadx rfl rfl ?_; apply Exists.intro; apply And.intro; (· (intro W hW; go_simp; try (first | with_reducible rfl | (rw [if_neg (by omega)]; try with_reducible rfl)))); simp only [Act.put, List.setIfInBounds_toArray, List.set_cons_zero, List.set_cons_succ]) | (refine sskip rfl rfl ?_; simp only [Act.put, List.setIfInBounds_toArray, List.set_cons_zero, List.set_cons_succ]))
 refine sdone ?_
 go_wp2_with fail
 go_ret
 refine ⟨?_, bthen FW.out B9⟩
 show Ending.returned (.string (ByteArray.mk T.toArray ++ ByteArray.mk (signS op).toArray ++ ByteArray.mk [32].toArray ++ ByteArray.mk T2.toArray)) = _
 rw [ba_append, ba_append, ba_append]
end
end Go.Proofs.YtnbmpfdffoidaaaGreat.Y
