/- Texts of the proof, joined: SynCall2. -/
import Derived.Test.YtnbmpfdffoidaaaGreatDoorBk17
set_option linter.unusedVariables false
set_option linter.unusedSimpArgs false
set_option maxHeartbeats 8000000
set_option maxRecDepth 100000
namespace Go.Proofs.YtnbmpfdffoidaaaGreatDoor.Y
open Go.RowKit O V S X
theorem GC.more {lo lo' bx kind : Nat} {p q z : Int} {t : List UInt8 × List UInt8 × List Ex} {w : World} (h : GC lo bx kind p q z t w) (hl : lo' ≤ lo) : GC lo' bx kind p q z t w := by
 obtain ⟨A, c, xs, S, e1, e2, e3, e4⟩ := h
 exact ⟨A, c, xs, S, e1, own_moreY e2 hl, e3, fun b hb => ⟨Nat.le_trans hl (e4 b hb).1, (e4 b hb).2⟩⟩
theorem GC.mod {lo bx kind g : Nat} {p q z : Int} {t : List UInt8 × List UInt8 × List Ex} {w w' : World} (h : GC lo bx kind p q z t w) (m : Mod [g] w w') (hg : g ≠ bx) (hl : g < lo) : GC lo bx kind p q z t w' := by
 obtain ⟨A, c, xs, S, e1, e2, e3, e4⟩ := h
 exact ⟨A, c, xs, S, m.box e1 (by simp; omega), own_mod e2 m (fun k hk => by have := (e2.lt k hk).1; simp; omega), e3.imp fun x vs => ExR.keep (fun b hb => m.block b (e4 b hb).2 (by have := e4 b hb; simp; omega)) x vs, fun b hb => ⟨(e4 b hb).1, Nat.lt_of_lt_of_le (e4 b hb).2 m.size⟩⟩
theorem GC.gx {lo bx kind : Nat} {p q z : Int} {t : List UInt8 × List UInt8 × List Ex} {w : World} (h : GC lo bx kind p q z t w) (x : Ex) (hk : hdK x = (kind : Int)) (hV : hdV x = zv) (hO : hdO x = 0) (hN : hdN x = t.1) (hC : hdC x = t.2.1) (hp : parts x = t.2.2) : GX lo bx x w := by
 obtain ⟨A, c, xs, S, e1, e2, e3, e4⟩ := h
 refine ⟨exC x (.slice A t.2.2.length c) p q z, fun b => S b ∨ (Value.slice A t.2.2.length c).ownBlock = some b, ?_, ?_, ?_⟩
 ·rw [e1]
  unfold exC
  rw [hk, hV, hO, hN, hC]
  rfl
 ·rw [ExR_eq, hp]
  exact ⟨A, c, xs, p, q, z, rfl, Row.of_own e2 (fun g hg => .inr hg), e3.imp fun a vs => ExR.mono (fun b hb => .inl hb) a vs⟩
 ·rintro b (hb | hb)
  ·exact e4 b hb
  ·exact e2.lt b hb
def pCall (f kind n d : Nat) (l : List Tok) : Res (List UInt8 × List UInt8 × List Ex) := Y.around [40] [41] d l fun d r => pCall1 f kind n d r
theorem call_any (f : Nat) (hE : EC f) (g d bx kind n : Nat) (p q z : Int) (l : List Tok) (w : World) (h : Ps w g d l) (hd : d ≤ 16) (hno : pCall f kind n d l ≠ .oof)
  (h1 : w.heap[bx]? = some (.cells #[nv 0, nv 0, nv 0, sv [], sv [], sv [], nv 0, .slice none 0 0, nv p, nv q, nv z] 59 (0, 0))) (hg1 : g < bx) (hkn : kind ≤ 100 ∧ n ≤ 100) :
  Calls Tryz.prog 185 #[.pointer (some ⟨g, 0, none⟩), .pointer (some ⟨bx, 0, none⟩), nv kind, nv n] w (Out [g, bx] g d w (pCall f kind n d l) fun t w' v => v = .tuple #[] ∧ GC w.heap.size bx kind p q z t w') := by
 have HS := Lib.hid h
 have HX := Lib.hid h1
 have HE := Lib.hid hE
 have HNA : Hid (isT l [40] = true → d < 16 → pCall1 f kind n (d + 1) l.tail ≠ .oof) := Lib.hid (fun hi hd => around_no (k := fun d r => pCall1 f kind n d r) hno hi hd)
 have hlt := h.lt
 have hbxl : bx < w.heap.size := (Array.getElem?_eq_some_iff.1 h1).1
 obtain ⟨RT, hRT⟩ : ∃ RT, pCall f kind n d l = RT := ⟨_, rfl⟩
 rw [hRT] at hno ⊢
 have HRT := Lib.hid hRT
 have HNO := Lib.hid hno
 have hmf : ∀ (fn : Fn) (first cap : Array Value) (w : World), (Instr.makeFunc fn first cap).run Tryz.prog w = .ok (.func fn first cap) w := fun _ _ _ _ => rfl
 have hc1 := Tryz.call186
 clear h h1 hE hno hRT
 obtain ⟨⟨⟨⟨y0, y1⟩, y2, y3⟩, ⟨y4, y5⟩, y6, y7⟩, ⟨y8, y9⟩, y10⟩ := cells11 HX.out
 obtain ⟨⟨⟨⟨fr0, fr1⟩, fr2, fr3⟩, ⟨fr4, fr5⟩, fr6, fr7⟩, ⟨fr8, fr9⟩, fr10⟩ := frozen11 HX.out
 have hl1 : bx < w.heap.size + 1 := by omega
 have hl2 : bx < w.heap.size + 1 + 1 := by omega
 have hl3 : bx < w.heap.size + 1 + 1 + 1 := by omega
 go_enter Tryz.func185, Tryz.ntmps185
 go_wp2_with fail
 have hM : Mod [g, bx] w (((((w.setCell ⟨bx, 0, none⟩ (.int .i64 (kind : Int))).alloc (.cells #[.pointer (some ⟨g, 0, none⟩)] 51)).alloc (.cells #[.pointer (some ⟨bx, 0, none⟩)] 192)).alloc (.cells #[nv kind] 3)).alloc (.cells #[nv n] 3)) := ((((((Mod.refl _ _).set (.inl (by simp)) _).alloc _).alloc _).alloc _).alloc _)
 have hB : B4 (((((w.setCell ⟨bx, 0, none⟩ (.int .i64 (kind : Int))).alloc (.cells #[.pointer (some ⟨g, 0, none⟩)] 51)).alloc (.cells #[.pointer (some ⟨bx, 0, none⟩)] 192)).alloc (.cells #[nv kind] 3)).alloc (.cells #[nv n] 3)) g bx w.heap.size (w.heap.size + 1) (w.heap.size + 1 + 1) (w.heap.size + 1 + 1 + 1) kind n := ⟨alloc_old' (alloc_old' (alloc_old' (alloc_at (by simp)))), alloc_old' (alloc_old' (alloc_at (by simp))), alloc_old' (alloc_at (by simp)), alloc_at (by simp)⟩
 have hX : (((((w.setCell ⟨bx, 0, none⟩ (.int .i64 (kind : Int))).alloc (.cells #[.pointer (some ⟨g, 0, none⟩)] 51)).alloc (.cells #[.pointer (some ⟨bx, 0, none⟩)] 192)).alloc (.cells #[nv kind] 3)).alloc (.cells #[nv n] 3)).heap[bx]? = some (.cells #[nv kind, nv 0, nv 0, sv [], sv [], sv [], nv 0, .slice none 0 0, nv p, nv q, nv z] 59 (0, 0)) := alloc_old' (alloc_old' (alloc_old' (alloc_old' (heap_set' HX.out _ 0 rfl))))
 have hP : Ps (((((w.setCell ⟨bx, 0, none⟩ (.int .i64 (kind : Int))).alloc (.cells #[.pointer (some ⟨g, 0, none⟩)] 51)).alloc (.cells #[.pointer (some ⟨bx, 0, none⟩)] 192)).alloc (.cells #[nv kind] 3)).alloc (.cells #[nv n] 3)) g d l := ((((HS.out.set hg1 _).alloc _).alloc _).alloc _).alloc _
 have hz : (((((w.setCell ⟨bx, 0, none⟩ (.int .i64 (kind : Int))).alloc (.cells #[.pointer (some ⟨g, 0, none⟩)] 51)).alloc (.cells #[.pointer (some ⟨bx, 0, none⟩)] 192)).alloc (.cells #[nv kind] 3)).alloc (.cells #[nv n] 3)).heap.size = w.heap.size + 4 := by simp
 obtain ⟨w2, hw2⟩ : ∃ w2, (((((w.setCell ⟨bx, 0, none⟩ (.int .i64 (kind : Int))).alloc (.cells #[.pointer (some ⟨g, 0, none⟩)] 51)).alloc (.cells #[.pointer (some ⟨bx, 0, none⟩)] 192)).alloc (.cells #[nv kind] 3)).alloc (.cells #[nv n] 3)) = w2 := ⟨_, rfl⟩
 rw [hw2] at hM hB hX hP hz ⊢
 clear hw2 y0 y1 y2 y3 y4 y5 y6 y7 y8 y9 y10 fr0 fr1 fr2 fr3 fr4 fr5 fr6 fr7 fr8 fr9 fr10
 have HM := Lib.hid hM
 have HB := Lib.hid hB
 have HX2 := Lib.hid hX
 have HP := Lib.hid hP
 clear hM hB hX hP
 refine (around_any (α := List UInt8 × List UInt8 × List Ex) g d l [40] [41] 186 #[.pointer (some ⟨w.heap.size, 0, none⟩), .pointer (some ⟨w.heap.size + 1, 0, none⟩), .pointer (some ⟨w.heap.size + 1 + 1, 0, none⟩), .pointer (some ⟨w.heap.size + 1 + 1 + 1, 0, none⟩)] [g, bx] (fun d r => pCall1 f kind n d r) (GC w2.heap.size bx kind p q z) w2 HP.out hd (by simp) (fun x hx => by simp at hx; omega) hc1 (fun hi hd2 W mW pW => ?_)).mono ?_
 ·refine (call1_any f HE.out g (d + 1) bx w.heap.size (w.heap.size + 1) (w.heap.size + 1 + 1) (w.heap.size + 1 + 1 + 1) kind n p q z l.tail W pW hd2 (HNA.out hi hd2) (HB.out.mod mW (fun b hh => by simp; omega)) (mW.box HX2.out (by simp; omega)) hg1 (fun b hh => by omega) hkn).mono fun e w' ho => ho.imp fun y W' v hg => ⟨hg.1, hg.2.more mW.size⟩
 rintro e w7 ⟨m7, h7⟩
 rw [show Y.around [40] [41] d l (fun d r => pCall1 f kind n d r) = RT from HRT.out] at h7
 have M7 : Hid (Mod [g, bx] w w7) := Lib.hid (HM.out.then m7)
 clear m7
 cases RT with
 | oof => exact h7.elim
 | bad =>
  obtain ⟨er, ep, eq, ez, hne, rfl⟩ := h7
  have HN := Lib.hid hne
  clear hne
  go_wp2_with fail
  exact ⟨rfl, M7.out, er, ep, eq, ez, HN.out, rfl⟩
 | ok y r =>
  obtain ⟨p7, v, rfl, rfl, W7, hG, m8⟩ := h7
  have P7 := Lib.hid p7
  have G7 := Lib.hid ((hG.mod m8 (by omega) (by omega)).more (show w.heap.size ≤ w2.heap.size by omega))
  clear p7 hG m8
  go_wp2_with fail
  go_end0
  exact ⟨M7.out, P7.out, _, rfl, rfl, G7.out⟩
end Go.Proofs.YtnbmpfdffoidaaaGreatDoor.Y
