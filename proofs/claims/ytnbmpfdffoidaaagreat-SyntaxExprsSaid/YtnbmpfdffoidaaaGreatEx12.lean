/- Texts of the proof, joined: SynPx3, SynGrowP. -/
import Derived.Test.YtnbmpfdffoidaaaGreatEx02
import Derived.Test.YtnbmpfdffoidaaaGreatEx11
set_option linter.unusedVariables false
set_option linter.unusedSimpArgs false
set_option maxHeartbeats 8000000
set_option maxRecDepth 100000
namespace Go.Proofs.YtnbmpfdffoidaaaGreat.Y
open Go.RowKit O V S X
theorem arg_at {x : Ex} {A : Option Addr} {c : Nat} {p q r : Int} {S : Nat → Prop} {i g : Nat} {w : World} (hi : i < (parts x).length) (hg : g ≤ w.heap.size) (h : ExAt w S x A c) (hS : ∀ b, S b → b < g) :
  ∃ A' c' p' q' r', Arg g (exX x A c p q r) i (exX (parts x)[i] A' c' p' q' r') w ∧ ExAt w S (parts x)[i] A' c' := by
 obtain ⟨b, off, A', c', p', q', r', rfl, hb, hc, h3⟩ := h.part hS hi
 refine ⟨A', c', p', q', r', fun w' hw => ?_, h3⟩
 exact arg_raw _ _ _ _ _ _ _ _ _ _ b off (parts x).length c i rfl hi (by have := parts_len x; omega) _ _ _ _ _ _ _ A' _ c' p' q' r' w' (by have := hw.size; omega) (fun j hj => (hw.cell (p := ⟨b, off + i * 11 + j, none⟩) hb).trans (hc j hj))
theorem toksX_no {x : Ex} {least : Nat} (h : least ≤ lvlX x) : toksX x least = toks0 x := by unfold toksX br; rw [if_neg (by omega)]
theorem toksX_yes {x : Ex} {least : Nat} (h : lvlX x < least) : toksX x least = tg [40] :: (toks0 x ++ [tg [41]]) := by unfold toksX br; rw [if_pos h]
def PX0 (x : Ex) : Prop := ∀ least, least ≤ lvlX x → PX x least
theorem PX0.all {x : Ex} (hx : okX x) (h : PX0 x) : ∀ least, PX x least := by
 intro least
 by_cases hl : least ≤ lvlX x
 ·exact h least hl
 ·intro A c p q r g S w hat hS hg
  have h0 := h 0 (by omega) A c p q r g S w hat hS hg
  rw [toksX_no (by omega)] at h0
  rw [toksX_yes (by omega)]
  have := brk_raw (hdK x) (hdV x).k (hdV x).n (hdV x).s (hdN x) (hdC x) (hdO x : Nat) A (parts x).length c p q r g w (lvlX x) least (txts (toks0 x)) (fun w' => level_any x hx _ p q r w') (by omega) h0
  rw [txts_cons, txts_app]
  exact this
theorem px_any : ∀ x, okX x → ∀ least, PX x least :=
 Ex.ind fun x ih hx => by
  refine PX0.all hx fun least hl A c p q r g S w hat hS hg => ?_
  rw [toksX_no hl]
  have hlev : Lev (exX x A c p q r) (lvlX x) := fun w' => level_any x hx _ p q r w'
  cases x with
  | val v =>
   have h1 : v.s.length ≤ 1000000000 ∧ -9223372036854775808 ≤ v.n ∧ v.n ≤ 9223372036854775807 := by
    have hx : okV v := hx
    obtain ⟨k, n, s⟩ := v
    rcases right_cases hx.1 with ⟨e, e2⟩ | ⟨e, e2, e3⟩ | ⟨e, e2, e3⟩
    ·have := hx.2 e
     simp only at e2 this ⊢
     rw [e2]
     simp only [List.length_nil]
     omega
    ·simp only at e2 e3 ⊢
     rw [e2]
     simp only [List.length_nil]
     omega
    ·have := plain_len e3
     simp only at e2 this ⊢
     omega
   have := val_raw v.k v.n v.s [] [] 0 A 0 c p q r g w 7 least hlev hl h1.1 h1.2.1 h1.2.2
   have e : txts (toks0 (.val v)) = [printV ⟨v.k, v.n, v.s⟩] := by
    show [(tv v).2.1] = _
    rw [tv_text (show okV v from hx).1]
   rw [e]
   exact this
  | var n => exact var_raw 0 0 [] n [] 0 A 0 c p q r g w 7 least hlev hl
  | cell n col k =>
   obtain ⟨A', c', p', q', r', h1, h2⟩ := arg_at (p := p) (q := q) (r := r) (i := 0) (by simp [parts]) hg hat hS
   have hk := ih k (by simp [parts]) hx.2.2 0 A' c' p' q' r' g S w h2 hS hg
   rw [toksX_no (by omega)] at hk
   have := cell_raw 0 0 [] n col 0 A 1 c p q r g w 7 least _ _ hlev hl h1 (key_raw _ _ _ _ _ _ _ _ _ _ _ _ _ g w _ hk)
   have e : txts (toks0 (.cell n col k)) = n :: (([91] :: (txts (toks0 k) ++ [[93]])) ++ [[46], col]) := by
    rw [toks0]
    simp [txts, tw, tg]
   rw [e]
   exact this
  | un op a =>
   obtain ⟨A', c', p', q', r', h1, h2⟩ := arg_at (p := p) (q := q) (r := r) (i := 0) (by simp [parts]) hg hat hS
   have hk := ih a (by simp [parts]) hx.2 6 A' c' p' q' r' g S w h2 hS hg
   exact un_raw 0 0 [] [] [] A 1 c p q r g w op 6 least hx.1 _ _ hlev hl h1 hk
  | bin op a b =>
   obtain ⟨A', c', p', q', r', h1, h2⟩ := arg_at (p := p) (q := q) (r := r) (i := 0) (by simp [parts]) hg hat hS
   obtain ⟨A2, c2, p2, q2, r2, h3, h4⟩ := arg_at (p := p) (q := q) (r := r) (i := 1) (by simp [parts]) hg hat hS
   have hk := ih a (by simp [parts]) hx.2.1 (lvlS op) A' c' p' q' r' g S w h2 hS hg
   have hk2 := ih b (by simp [parts]) hx.2.2 (lvlS op + 1) A2 c2 p2 q2 r2 g S w h4 hS hg
   have := bin_raw 0 0 [] [] [] A 2 c p q r g w op (lvlS op) least hx.1 _ _ _ _ hlev hl h1 h3 hk hk2
   have e : txts (toks0 (.bin op a b)) = txts (toksX a (lvlS op)) ++ signS op :: txts (toksX b (lvlS op + 1)) := by
    rw [toks0]
    simp [txts, tg, toksX]
   rw [e]
   exact this
  | has n k =>
   have hc := prcall_any (.has n k) w_has A c p q r g S w hat hS hg fun y hy => ih y hy (by simp [parts] at hy; subst hy; exact hx.2) 0
   have := q4_raw 0 0 [] n [] 0 A 1 c p q r g w 7 least _ hlev hl hc
   have e : txts (toks0 (.has n k)) = callT w_has (.has n k) := by
    rw [toks0]
    simp [callT, argT, parts, hdK, hdN, txts, tw, tg]
   rw [e]
   exact this
  | sum n col a b =>
   have hc := prcall_any (.sum n col a b) w_sum A c p q r g S w hat hS hg fun y hy => ih y hy (by simp [parts] at hy; rcases hy with rfl | rfl; exact hx.2.2.1; exact hx.2.2.2) 0
   have := q5_raw 0 0 [] n col 0 A 2 c p q r g w 7 least _ hlev hl hc
   have e : txts (toks0 (.sum n col a b)) = callT w_sum (.sum n col a b) := by
    rw [toks0]
    simp [callT, argT, parts, hdK, hdN, hdC, txts, tw, tg]
   rw [e]
   exact this
  | cnt n a b =>
   have hc := prcall_any (.cnt n a b) w_count A c p q r g S w hat hS hg fun y hy => ih y hy (by simp [parts] at hy; rcases hy with rfl | rfl; exact hx.2.1; exact hx.2.2) 0
   have := q6_raw 0 0 [] n [] 0 A 2 c p q r g w 7 least _ hlev hl hc
   have e : txts (toks0 (.cnt n a b)) = callT w_count (.cnt n a b) := by
    rw [toks0]
    simp [callT, argT, parts, hdK, hdN, txts, tw, tg]
   rw [e]
   exact this
def textOf (l : List Tok) : List UInt8 := joinB (txts l)
theorem printExpr_any (x : Ex) (hx : okX x) (A : Option Addr) (c : Nat) (p q r : Int) (S : Nat → Prop) (w : World) (hat : ExAt w S x A c) (hS : ∀ b, S b → b < w.heap.size) (hlim : (toks0 x).length ≤ 1000000000) (hlen : (textOf (toks0 x)).length ≤ 140737488355328) :
  Calls Tryz.prog 11 #[exX x A c p q r] w fun e w' => e = .returned (sv (textOf (toks0 x))) ∧ Below w.heap.size w w' := by
 have hpx := px_any x hx 0
 have e0 : toksX x 0 = toks0 x := toksX_no (by omega)
 have hb1 : Below w.heap.size w ((w.alloc (exO (hdK x) (hdV x).k (hdV x).n (hdV x).s (hdN x) (hdC x) (hdO x : Nat) (.slice A (parts x).length c) p q r)).alloc (.cells #[.slice none 0 0] 80)) := by repeat (first | exact Below.refl _ _ | refine Below.alloc ?_ (by simp <;> omega) _)
 have hrun := hpx A c p q r (w.heap.size + 1) S _ (hat.keep fun b hb => hb1.block b (hS b hb)) (fun b hb => by have := hS b hb; omega) (by simp)
 have HR := Lib.hid hrun
 have HB := Lib.hid hb1
 clear hpx hrun hat hb1
 go_enter Tryz.func11, Tryz.ntmps11
 go_wp2_with fail
 refine (HR.out _ [] (Below.refl _ _) ⟨none, 0, 0, alloc_at (by simp), World.ownsRow_nil _ _ _ _⟩ (by rw [txts_len, e0]; simp; omega)).mono ?_; rintro e w2 ⟨rfl, p2, f2⟩
 rw [e0, List.nil_append] at p2
 have hlt := p2.lt
 obtain ⟨A2, n2, c2, h2, o2⟩ := p2
 have y0 : w2.cell? ⟨w.heap.size + 1, 0, none⟩ = some (.slice A2 n2 c2) := by rw [Lib.cell_of_heap h2]; rfl
 have hn2 : n2 ≤ 1000000000 := by have := o2.1; rw [List.length_map, txts_len] at this; omega
 have O2 := Lib.hid o2
 have F2 := Lib.hid f2
 clear o2 f2 h2
 go_wp2_with fail
 have hj := joinB_eq (txts (toks0 x))
 refine (join_rd (c := c2) (txts (toks0 x)) [32] (Rd.of_own O2.out) (own_cap O2.out) (by omega) (by rw [hj]; exact hlen)).mono ?_; rintro e w3 ⟨rfl, b3⟩
 go_wp2_with fail
 go_ret
 refine ⟨rfl, HB.out.trans ?_⟩
 have := F2.out.below (by simp)
 exact (this.mono (by omega)).trans (b3.mono (by have := F2.out.size; simp at this; omega))
end Go.Proofs.YtnbmpfdffoidaaaGreat.Y
namespace Go.Proofs.YtnbmpfdffoidaaaGreat.Y
open O V S
def leafX (n : Nat) : Ex := if n % 3 = 0 then .var [120] else if n % 3 = 1 then .val ⟨1, ((n % 100 : Nat) : Int), []⟩ else .val ⟨3, 0, [97]⟩
theorem leafX_parts (n : Nat) : parts (leafX n) = [] := by unfold leafX; split; rfl; split <;> rfl
def stepX (x : Ex) (n : Nat) : Ex :=
 if n % 18 = 0 then .un 13 x else if n % 18 = 1 then .un 14 x else if n % 18 = 2 then .cell [116] [99] x else if n % 18 = 3 then .has [116] x
 else if n % 18 = 4 then .sum [116] [99] x (leafX (n / 18)) else if n % 18 = 5 then .cnt [116] (leafX (n / 18)) x
 else if n / 18 % 2 = 1 then .bin (n % 18 - 5) (leafX (n / 36)) x else .bin (n % 18 - 5) x (leafX (n / 36))
def growX (l : List Nat) : Ex := (l.take 8).foldl stepX (leafX l.length)
theorem take_step {l : List Nat} {k : Nat} (h : k < l.length) (x : Ex) : (l.take (k + 1)).foldl stepX x = stepX ((l.take k).foldl stepX x) l[k] := by
 rw [List.take_succ_eq_append_getElem h, List.foldl_append]; rfl
end Go.Proofs.YtnbmpfdffoidaaaGreat.Y
