/- Texts of the proof, joined: SynKey, SynRow. -/
import Derived.Test.YtnbmpfdffoidaaaGreatDoorBk15
set_option linter.unusedVariables false
set_option linter.unusedSimpArgs false
set_option maxHeartbeats 8000000
set_option maxRecDepth 100000
namespace Go.Proofs.YtnbmpfdffoidaaaGreatDoor.Y
open Go.RowKit O V S X
def GX (lo b1 : Nat) (x : Ex) (w' : World) : Prop := ∃ vs S, w'.heap[b1]? = some (.cells vs.toArray 59 (0, 0)) ∧ ExR w' S x vs ∧ ∀ b, S b → lo ≤ b ∧ b < w'.heap.size
theorem GX.more {lo lo' b1 : Nat} {x : Ex} {w : World} (h : GX lo b1 x w) (hl : lo' ≤ lo) : GX lo' b1 x w := by
 obtain ⟨vs, S, e1, e2, e3⟩ := h
 exact ⟨vs, S, e1, e2, fun b hb => ⟨Nat.le_trans hl (e3 b hb).1, (e3 b hb).2⟩⟩
theorem GX.mod {lo b1 g : Nat} {x : Ex} {w w' : World} (h : GX lo b1 x w) (m : Mod [g] w w') (hg : g ≠ b1) (hl : g < lo) : GX lo b1 x w' := by
 obtain ⟨vs, S, e1, e2, e3⟩ := h
 exact ⟨vs, S, m.box e1 (by simp; omega), ExR.keep (fun b hb => m.block b (e3 b hb).2 (by have := e3 b hb; simp; omega)) _ _ e2, fun b hb => ⟨(e3 b hb).1, Nat.lt_of_lt_of_le (e3 b hb).2 m.size⟩⟩
theorem around_no {α : Type} {a b : List UInt8} {d : Nat} {l : List Tok} {k : Nat → List Tok → Res α} (h : Y.around a b d l k ≠ .oof) (hi : isT l a = true) (hd : d < 16) : k (d + 1) l.tail ≠ .oof := by
 unfold Y.around at h
 rw [if_pos hi, if_neg (by omega)] at h
 rintro e
 rw [e] at h
 exact h rfl
theorem key1_any (f : Nat) (hE : EC f) (g d b0 b1 : Nat) (l : List Tok) (z0 z1 z2 z3 z4 z5 z6 z7 z8 z9 z10 : Value) (w : World) (h : Ps w g d l) (hd : d ≤ 16) (hno : pExpr f 0 d l ≠ .oof) (h0 : w.heap[b0]? = some (.cells #[.pointer (some ⟨g, 0, none⟩)] 51 (0, 0))) (h1 : w.heap[b1]? = some (.cells #[z0, z1, z2, z3, z4, z5, z6, z7, z8, z9, z10] 59 (0, 0))) (hg1 : g < b1) :
  Calls Tryz.prog 175 #[.pointer (some ⟨b0, 0, none⟩), .pointer (some ⟨b1, 0, none⟩)] w (Out [g, b1] g d w (pExpr f 0 d l) fun x w' v => v = .tuple #[] ∧ GX w.heap.size b1 x w') := by
 have HU := Lib.hid (hE g d 0 l w h hd hno)
 have hlt1 : b1 < w.heap.size := (Array.getElem?_eq_some_iff.1 h1).1
 have H1 := Lib.hid h1
 have x0 : w.cell? ⟨b0, 0, none⟩ = some (.pointer (some ⟨g, 0, none⟩)) := by rw [Lib.cell_of_heap h0]; rfl
 obtain ⟨RT, hRT⟩ : ∃ RT, pExpr f 0 d l = RT := ⟨_, rfl⟩
 rw [hRT] at hno ⊢
 have HRT := Lib.hid hRT
 clear hE h h0 h1 hno hRT
 go_enter Tryz.func175, Tryz.ntmps175
 go_wp2_with fail
 refine HU.out.mono ?_; rintro e w1 ⟨m1, h1⟩
 rw [HRT.out] at h1
 have M1 := Lib.hid (m1.more (cs := [g, b1]) (fun x hx => .inl (by simp at hx; simp [hx])))
 have X1 := Lib.hid (m1.box H1.out (by simp; omega))
 have hs1 := m1.size
 clear m1
 cases RT with
 | oof => exact h1.elim
 | bad =>
  obtain ⟨er, ep, eq, ez, hne, rfl⟩ := h1
  have HN := Lib.hid hne
  clear hne
  go_wp2_with fail
  exact ⟨rfl, M1.out, er, ep, eq, ez, HN.out, rfl⟩
 | ok y r =>
  obtain ⟨p1, v, rfl, vs, S, rfl, hx, hS⟩ := h1
  obtain ⟨A, n, c, p, q, z, rfl⟩ := hx.form
  have P1 := Lib.hid p1
  have X := Lib.hid hx
  have S1 := Lib.hid hS
  have hv : Value.agg (exC y (.slice A n c) p q z).toArray = .agg #[nv (hdK y), nv (hdV y).k, nv (hdV y).n, sv (hdV y).s, sv (hdN y), sv (hdC y), nv (hdO y : Nat), .slice A n c, nv p, nv q, nv z] := rfl
  rw [hv]
  obtain ⟨⟨⟨⟨y0, y1⟩, y2, y3⟩, ⟨y4, y5⟩, y6, y7⟩, ⟨y8, y9⟩, y10⟩ := cells11 X1.out
  obtain ⟨⟨⟨⟨fr0, fr1⟩, fr2, fr3⟩, ⟨fr4, fr5⟩, fr6, fr7⟩, ⟨fr8, fr9⟩, fr10⟩ := frozen11 X1.out
  have hb1 : b1 < w1.heap.size := by omega
  clear hv p1 hx hS
  go_wp2_with fail
  go_end0
  obtain ⟨w6, hw6⟩ : ∃ w6, w6 = set11 w1 b1 (nv (hdK y)) (nv (hdV y).k) (nv (hdV y).n) (sv (hdV y).s) (sv (hdN y)) (sv (hdC y)) (nv (hdO y : Nat)) (.slice A n c) (nv p) (nv q) (nv z) := ⟨_, rfl⟩
  have HB6 : Hid (w6.heap[b1]? = some (.cells (exC y (.slice A n c) p q z).toArray 59 (0, 0))) := Lib.hid (by
   rw [hw6]
   exact set11_box (vs := [z0, z1, z2, z3, z4, z5, z6, z7, z8, z9, z10]) X1.out rfl)
  have hk6 : ∀ k, k ≠ b1 → w6.heap[k]? = w1.heap[k]? := fun k hk => by
   rw [hw6]
   exact set11_other hk
  have hz6 : w6.heap.size = w1.heap.size := by rw [hw6]; exact set11_size
  have HM6 : Hid (Mod [g, b1] w w6) := Lib.hid (M1.out.trans (cs := [b1]) (by rw [hw6]; exact set11_mod) (fun x hx => .inl (by simp at hx; simp [hx])))
  unfold set11 nv sv at hw6
  rw [← hw6]
  clear hw6
  refine ⟨HM6.out, P1.out.keep fun b hb => hk6 b (by omega), _, rfl, rfl, _, S, HB6.out, ExR.keep (fun b hb => hk6 b (by have := S1.out b hb; omega)) _ _ X.out, fun b hb => ?_⟩
  have := S1.out b hb
  omega
theorem operand1_any (f : Nat) (hE : EC f) (g d b0 b1 : Nat) (l : List Tok) (z0 z1 z2 z3 z4 z5 z6 z7 z8 z9 z10 : Value) (w : World) (h : Ps w g d l) (hd : d ≤ 16) (hno : pExpr f 0 d l ≠ .oof) (h0 : w.heap[b0]? = some (.cells #[.pointer (some ⟨g, 0, none⟩)] 51 (0, 0))) (h1 : w.heap[b1]? = some (.cells #[z0, z1, z2, z3, z4, z5, z6, z7, z8, z9, z10] 59 (0, 0))) (hg1 : g < b1) :
  Calls Tryz.prog 184 #[.pointer (some ⟨b0, 0, none⟩), .pointer (some ⟨b1, 0, none⟩)] w (Out [g, b1] g d w (pExpr f 0 d l) fun x w' v => v = .tuple #[] ∧ GX w.heap.size b1 x w') := by
 have HU := Lib.hid (hE g d 0 l w h hd hno)
 have hlt1 : b1 < w.heap.size := (Array.getElem?_eq_some_iff.1 h1).1
 have H1 := Lib.hid h1
 have x0 : w.cell? ⟨b0, 0, none⟩ = some (.pointer (some ⟨g, 0, none⟩)) := by rw [Lib.cell_of_heap h0]; rfl
 obtain ⟨RT, hRT⟩ : ∃ RT, pExpr f 0 d l = RT := ⟨_, rfl⟩
 rw [hRT] at hno ⊢
 have HRT := Lib.hid hRT
 clear hE h h0 h1 hno hRT
 go_enter Tryz.func184, Tryz.ntmps184
 go_wp2_with fail
 refine HU.out.mono ?_; rintro e w1 ⟨m1, h1⟩
 rw [HRT.out] at h1
 have M1 := Lib.hid (m1.more (cs := [g, b1]) (fun x hx => .inl (by simp at hx; simp [hx])))
 have X1 := Lib.hid (m1.box H1.out (by simp; omega))
 have hs1 := m1.size
 clear m1
 cases RT with
 | oof => exact h1.elim
 | bad =>
  obtain ⟨er, ep, eq, ez, hne, rfl⟩ := h1
  have HN := Lib.hid hne
  clear hne
  go_wp2_with fail
  exact ⟨rfl, M1.out, er, ep, eq, ez, HN.out, rfl⟩
 | ok y r =>
  obtain ⟨p1, v, rfl, vs, S, rfl, hx, hS⟩ := h1
  obtain ⟨A, n, c, p, q, z, rfl⟩ := hx.form
  have P1 := Lib.hid p1
  have X := Lib.hid hx
  have S1 := Lib.hid hS
  have hv : Value.agg (exC y (.slice A n c) p q z).toArray = .agg #[nv (hdK y), nv (hdV y).k, nv (hdV y).n, sv (hdV y).s, sv (hdN y), sv (hdC y), nv (hdO y : Nat), .slice A n c, nv p, nv q, nv z] := rfl
  rw [hv]
  obtain ⟨⟨⟨⟨y0, y1⟩, y2, y3⟩, ⟨y4, y5⟩, y6, y7⟩, ⟨y8, y9⟩, y10⟩ := cells11 X1.out
  obtain ⟨⟨⟨⟨fr0, fr1⟩, fr2, fr3⟩, ⟨fr4, fr5⟩, fr6, fr7⟩, ⟨fr8, fr9⟩, fr10⟩ := frozen11 X1.out
  have hb1 : b1 < w1.heap.size := by omega
  clear hv p1 hx hS
  go_wp2_with fail
  go_end0
  obtain ⟨w6, hw6⟩ : ∃ w6, w6 = set11 w1 b1 (nv (hdK y)) (nv (hdV y).k) (nv (hdV y).n) (sv (hdV y).s) (sv (hdN y)) (sv (hdC y)) (nv (hdO y : Nat)) (.slice A n c) (nv p) (nv q) (nv z) := ⟨_, rfl⟩
  have HB6 : Hid (w6.heap[b1]? = some (.cells (exC y (.slice A n c) p q z).toArray 59 (0, 0))) := Lib.hid (by
   rw [hw6]
   exact set11_box (vs := [z0, z1, z2, z3, z4, z5, z6, z7, z8, z9, z10]) X1.out rfl)
  have hk6 : ∀ k, k ≠ b1 → w6.heap[k]? = w1.heap[k]? := fun k hk => by
   rw [hw6]
   exact set11_other hk
  have hz6 : w6.heap.size = w1.heap.size := by rw [hw6]; exact set11_size
  have HM6 : Hid (Mod [g, b1] w w6) := Lib.hid (M1.out.trans (cs := [b1]) (by rw [hw6]; exact set11_mod) (fun x hx => .inl (by simp at hx; simp [hx])))
  unfold set11 nv sv at hw6
  rw [← hw6]
  clear hw6
  refine ⟨HM6.out, P1.out.keep fun b hb => hk6 b (by omega), _, rfl, rfl, _, S, HB6.out, ExR.keep (fun b hb => hk6 b (by have := S1.out b hb; omega)) _ _ X.out, fun b hb => ?_⟩
  have := S1.out b hb
  omega
theorem key_any (f : Nat) (hE : EC f) (g d : Nat) (l : List Tok) (w : World) (h : Ps w g d l) (hd : d ≤ 16) (hno : pKey f d l ≠ .oof) :
  Calls Tryz.prog 166 #[.pointer (some ⟨g, 0, none⟩)] w (Out [g] g d w (pKey f d l) (ExG w.heap.size)) := by
 have HE := Lib.hid hE
 have HNA : Hid (isT l [91] = true → d < 16 → pExpr f 0 (d + 1) l.tail ≠ .oof) := Lib.hid (fun hi hd => around_no (k := fun d r => pExpr f 0 d r) hno hi hd)
 have HS := Lib.hid h
 have hlt := h.lt
 obtain ⟨RT, hRT⟩ : ∃ RT, pKey f d l = RT := ⟨_, rfl⟩
 rw [hRT] at hno ⊢
 have HRT := Lib.hid hRT
 have hmf : ∀ (fn : Fn) (first cap : Array Value) (w : World), (Instr.makeFunc fn first cap).run Tryz.prog w = .ok (.func fn first cap) w := fun _ _ _ _ => rfl
 clear hE h hno hRT
 have HA : Hid (Below w.heap.size w ((w.alloc (.cells #[.pointer (some ⟨g, 0, none⟩)] 51)).alloc (.cells #[nv 0, nv 0, nv 0, sv [], sv [], sv [], nv 0, .slice none 0 0, nv 0, nv 0, nv 0] 59))) := Lib.hid (by repeat (first | exact Below.refl _ _ | refine Below.alloc ?_ (by simp <;> omega) _))
 have HB0 : Hid (((w.alloc (.cells #[.pointer (some ⟨g, 0, none⟩)] 51)).alloc (.cells #[nv 0, nv 0, nv 0, sv [], sv [], sv [], nv 0, .slice none 0 0, nv 0, nv 0, nv 0] 59)).heap[w.heap.size]? = some (.cells #[.pointer (some ⟨g, 0, none⟩)] 51 (0, 0))) := Lib.hid (alloc_old' (alloc_at rfl))
 have HB1 : Hid (((w.alloc (.cells #[.pointer (some ⟨g, 0, none⟩)] 51)).alloc (.cells #[nv 0, nv 0, nv 0, sv [], sv [], sv [], nv 0, .slice none 0 0, nv 0, nv 0, nv 0] 59)).heap[w.heap.size + 1]? = some (.cells #[nv 0, nv 0, nv 0, sv [], sv [], sv [], nv 0, .slice none 0 0, nv 0, nv 0, nv 0] 59 (0, 0))) := Lib.hid (alloc_at (by simp))
 have hz2 : ((w.alloc (.cells #[.pointer (some ⟨g, 0, none⟩)] 51)).alloc (.cells #[nv 0, nv 0, nv 0, sv [], sv [], sv [], nv 0, .slice none 0 0, nv 0, nv 0, nv 0] 59)).heap.size = w.heap.size + 2 := by simp
 have hc1 := Tryz.call175
 go_enter Tryz.func166, Tryz.ntmps166
 go_wp2_with fail
 have HP2 := Lib.hid (HS.out.next HA.out)
 obtain ⟨w2, hw2⟩ : ∃ w2, ((w.alloc (.cells #[.pointer (some ⟨g, 0, none⟩)] 51)).alloc (.cells #[nv 0, nv 0, nv 0, sv [], sv [], sv [], nv 0, .slice none 0 0, nv 0, nv 0, nv 0] 59)) = w2 := ⟨_, rfl⟩
 rw [hw2] at HA HB0 HB1 hz2 HP2 ⊢
 clear hw2
 have q0 : w2.cell? ⟨w.heap.size, 0, none⟩ = some (.pointer (some ⟨g, 0, none⟩)) := by rw [Lib.cell_of_heap HB0.out]; rfl
 go_wp2_with fail
 refine (around_any (α := Ex) g d l [91] [93] 175 #[.pointer (some ⟨w.heap.size, 0, none⟩), .pointer (some ⟨w.heap.size + 1, 0, none⟩)] [g, w.heap.size + 1] (fun d r => pExpr f 0 d r) (GX w2.heap.size (w.heap.size + 1)) w2 HP2.out hd (by simp) (fun x hx => by simp at hx; omega) hc1 (fun hi hd2 W mW pW => ?_)).mono ?_
 ·refine (key1_any f HE.out g (d + 1) w.heap.size (w.heap.size + 1) l.tail _ _ _ _ _ _ _ _ _ _ _ W pW hd2 (HNA.out hi hd2) (mW.box HB0.out (by simp; omega)) (mW.box HB1.out (by simp; omega)) (by omega)).mono fun e w' ho => ho.imp fun y W' v hg => ⟨hg.1, hg.2.more mW.size⟩
 rintro e w7 ⟨m7, h7⟩
 rw [show Y.around [91] [93] d l (fun d r => pExpr f 0 d r) = RT from HRT.out] at h7
 have M7 : Hid (Mod [g] w w7) := Lib.hid ((Mod.of_below HA.out).trans m7 (fun x hx => by
  simp at hx
  rcases hx with rfl | rfl
  ·exact .inl (by simp)
  ·exact .inr (by omega)))
 clear m7
 cases RT with
 | oof => exact h7.elim
 | bad =>
  obtain ⟨er, ep, eq, ez, hne, rfl⟩ := h7
  have HN := Lib.hid hne
  clear hne
  go_wp2_with fail
  exact ⟨rfl, M7.out, er, ep, eq, ez, HN.out, rfl⟩
 | ok y r =>
  obtain ⟨p7, v, rfl, rfl, W7, hG, m8⟩ := h7
  obtain ⟨vs, S, e1, e2, e3⟩ := hG.mod m8 (by omega) (by omega)
  obtain ⟨A, n, c, p, q, z, rfl⟩ := e2.form
  have P7 := Lib.hid p7
  have HB7 : Hid (w7.heap[w.heap.size + 1]? = some (.cells #[nv (hdK y), nv (hdV y).k, nv (hdV y).n, sv (hdV y).s, sv (hdN y), sv (hdC y), nv (hdO y : Nat), .slice A n c, nv p, nv q, nv z] 59 (0, 0))) := Lib.hid e1
  have X7 := Lib.hid e2
  have S7 := Lib.hid e3
  clear p7 hG m8 e1 e2 e3
  obtain ⟨⟨⟨⟨y0, y1⟩, y2, y3⟩, ⟨y4, y5⟩, y6, y7⟩, ⟨y8, y9⟩, y10⟩ := cells11 HB7.out
  obtain ⟨⟨⟨⟨fr0, fr1⟩, fr2, fr3⟩, ⟨fr4, fr5⟩, fr6, fr7⟩, ⟨fr8, fr9⟩, fr10⟩ := frozen11 HB7.out
  go_wp2_with fail
  refine bodyPost_ret (v := .agg #[nv (hdK y), nv (hdV y).k, nv (hdV y).n, sv (hdV y).s, sv (hdN y), sv (hdC y), nv (hdO y : Nat), .slice A n c, nv p, nv q, nv z]) (by simp [results, Tryz.results166, go_sem, y0, y1, y2, y3, y4, y5, y6, y7, y8, y9, y10]) rfl ?_
  have hns : ¬ S (w.heap.size + 1) := fun hh => by have := S7.out _ hh; omega
  refine ⟨?_, ?_, _, rfl, exC y (.slice A n c) p q z, S, rfl, ?_, ?_⟩
  ·repeat (first | (with_reducible exact M7.out) | refine Mod.set ?_ (.inr (Nat.le_succ _)) _)
  ·repeat (first | (with_reducible exact P7.out) | refine Ps.set ?_ (Nat.lt_succ_of_lt hlt) _)
  ·repeat (first | (with_reducible exact X7.out) | refine ExR.set ?_ hns _)
  ·intro b hb
   have := S7.out b hb
   simp
   omega
end Go.Proofs.YtnbmpfdffoidaaaGreatDoor.Y
namespace Go.Proofs.YtnbmpfdffoidaaaGreatDoor.Y
open Go.RowKit O V S X
theorem exE : Elem Tryz.prog 42 59 11 128 (.agg #[.int .i64 0, .int .i64 0, .int .i64 0, .string ByteArray.empty, .string ByteArray.empty, .string ByteArray.empty, .int .i64 0, .slice none 0 0, .int .i64 0, .int .i64 0, .int .i64 0]) := by
 obtain ⟨i, hi, h1, h2, h3⟩ := info_parts (show (Tryz.prog.info? 59).map (fun i => (i.zero, i.size, i.bytes)) = some (some (.agg #[.int .i64 0, .int .i64 0, .int .i64 0, .string ByteArray.empty, .string ByteArray.empty, .string ByteArray.empty, .int .i64 0, .slice none 0 0, .int .i64 0, .int .i64 0, .int .i64 0]), 11, 128) by kernel_rfl)
 exact ⟨Tryz.underlying42, i, hi, h1, h2, h3, rfl, by omega⟩
theorem smE : Elem Tryz.prog 39 44 11 160 (.agg #[.int .i64 0, .string ByteArray.empty, .string ByteArray.empty, .string ByteArray.empty, .int .i64 0, .slice none 0 0, .slice none 0 0, .slice none 0 0, .int .i64 0, .int .i64 0, .int .i64 0]) := by
 obtain ⟨i, hi, h1, h2, h3⟩ := info_parts (show (Tryz.prog.info? 44).map (fun i => (i.zero, i.size, i.bytes)) = some (some (.agg #[.int .i64 0, .string ByteArray.empty, .string ByteArray.empty, .string ByteArray.empty, .int .i64 0, .slice none 0 0, .slice none 0 0, .slice none 0 0, .int .i64 0, .int .i64 0, .int .i64 0]), 11, 160) by kernel_rfl)
 exact ⟨Tryz.underlying39, i, hi, h1, h2, h3, rfl, by omega⟩
theorem wapp4 {P : Program} {K : Act → World → Prop} {Q : Exit → Act → World → Prop} {a : Act} {w : World} {o : Oper} (s x : Operand) {t e : TypeId} {size bytes : Nat} {z : Value}
  (hE : Elem P t e size bytes z) (ho : o.op = .call { callee := .builtin .append, args := #[s, x], argTypes := #[t, t] })
  (base : Nat) {A : Option Addr} {n c : Nat} (xs : List Value) (hs : a.eval s = .slice A n c) (hown : w.ownsRow base e size (.slice A n c) n xs)
  {m c' : Nat} {A' : Option Addr} (hx : a.eval x = .slice A' m c') {B : Nat} (news : List Value) (hr : Rd w B size A' m news) (h1 : ∀ u ∈ news, u.oneCell' = true)
  (h63 : n + m ≤ maxLen) (hlim : (n + m) * bytes ≤ 140737488355328) (hbase : base ≤ w.heap.size)
  {k : Nat} (hk : n + m = k)
  (h : ∀ A2 c2 w', w'.ownsRow base e size (.slice A2 k c2) k (xs ++ news) → w.grownBy w' (Value.slice A n c).ownBlock → ((Value.slice A2 k c2).ownBlock = (Value.slice A n c).ownBlock ∨ (Value.slice A2 k c2).ownBlock = some w.heap.size) → K (a.put o.dst (.slice A2 k c2)) w') : o.wp P a w K Q := by
 subst hk
 obtain ⟨A2, c2, w', hrun, h2, h3, h4⟩ := run_app (P := P) w hE o.type base hown (c' := c') hr h1 h63 hlim hbase
 unfold Oper.wp execOp
 simp only [ho, resolve, invoke, builtin, Sem.run_bind, Sem.run_pure, Result.andThen_ok, List.map_toArray, List.map_cons, List.map_nil, hs, hx, hrun]
 exact h A2 c2 w' h2 h3 h4
section
variable {w w' : World} {base size n : Nat} {e : TypeId} {v : Value} {xs : List Value} {bs : List Nat}
theorem own_mod (h : w.ownsRow base e size v n xs) (m : Mod bs w w') (hb : ∀ k, v.ownBlock = some k → k ∉ bs) : w'.ownsRow base e size v n xs := by
 refine ⟨h.1, ?_⟩
 rcases h.2 with hh | ⟨g, cap, cur, hv, h1, h2, h3⟩
 ·exact .inl hh
 ·exact .inr ⟨g, cap, cur, hv, h1, m.box h2 (hb g (by rw [hv]; rfl)), h3⟩
theorem own_moreY {base' : Nat} (h : w.ownsRow base e size v n xs) (hb : base' ≤ base) : w.ownsRow base' e size v n xs := by
 refine ⟨h.1, ?_⟩
 rcases h.2 with hh | ⟨g, cap, cur, hv, h1, h2, h3⟩
 ·exact .inl hh
 ·exact .inr ⟨g, cap, cur, hv, Nat.le_trans hb h1, h2, h3⟩
end
theorem own_form {w : World} {base n c : Nat} {e : TypeId} {size : Nat} {A : Option Addr} {xs : List Value} (h : w.ownsRow base e size (.slice A n c) n xs) (hn : 0 < n) : ∃ g, A = some ⟨g, 0, none⟩ ∧ base ≤ g ∧ g < w.heap.size := by
 rcases h.2 with ⟨hv, h0⟩ | ⟨g, cap, cur, hv, h1, h2, _⟩
 ·omega
 ·injection hv with e1
  exact ⟨g, e1, h1, (Array.getElem?_eq_some_iff.1 h2).1⟩
theorem set11_list (xs : List Value) (z0 z1 z2 z3 z4 z5 z6 z7 z8 z9 z10 u0 u1 u2 u3 u4 u5 u6 u7 u8 u9 u10 : Value) {k : Nat} (hk : xs.length = k) :
  ((((((((((((xs ++ [z0, z1, z2, z3, z4, z5, z6, z7, z8, z9, z10]).set k u0).set (k + 1) u1).set (k + 2) u2).set (k + 3) u3).set (k + 4) u4).set (k + 5) u5).set (k + 6) u6).set (k + 7) u7).set (k + 8) u8).set (k + 9) u9).set (k + 10) u10) = xs ++ [u0, u1, u2, u3, u4, u5, u6, u7, u8, u9, u10] := by
 subst hk
 have e : ∀ (j : Nat) (ys : List Value) (u : Value), (xs ++ ys).set (xs.length + j) u = xs ++ ys.set j u := fun j ys u => by
  rw [List.set_append_right _ _ (by omega), Nat.add_sub_cancel_left]
 have e0 : ∀ (ys : List Value) (u : Value), (xs ++ ys).set xs.length u = xs ++ ys.set 0 u := fun ys u => e 0 ys u
 rw [e0]
 simp only [e]
 rfl
theorem own_cells11 {w : World} {base n cap g : Nat} {e : TypeId} {xs : List Value} {z0 z1 z2 z3 z4 z5 z6 z7 z8 z9 z10 : Value} (h : w.ownsRow base e 11 (.slice (some ⟨g, 0, none⟩) n cap) n (xs ++ [z0, z1, z2, z3, z4, z5, z6, z7, z8, z9, z10])) {k : Nat} (hk : xs.length = k) :
  (((w.cell? ⟨g, k, none⟩ = some z0 ∧ w.cell? ⟨g, k + 1, none⟩ = some z1) ∧ (w.cell? ⟨g, k + 2, none⟩ = some z2 ∧ w.cell? ⟨g, k + 3, none⟩ = some z3)) ∧ ((w.cell? ⟨g, k + 4, none⟩ = some z4 ∧ w.cell? ⟨g, k + 5, none⟩ = some z5) ∧ (w.cell? ⟨g, k + 6, none⟩ = some z6 ∧ w.cell? ⟨g, k + 7, none⟩ = some z7))) ∧ (w.cell? ⟨g, k + 8, none⟩ = some z8 ∧ w.cell? ⟨g, k + 9, none⟩ = some z9) ∧ w.cell? ⟨g, k + 10, none⟩ = some z10 := by
 have hl := h.1
 simp at hl
 have c : ∀ j, j < 11 → w.cell? ⟨g, k + j, none⟩ = [z0, z1, z2, z3, z4, z5, z6, z7, z8, z9, z10][j]? := fun j hj => by
  rw [h.cellAt (k + j) (by omega), List.getElem?_append_right (by omega), hk, Nat.add_sub_cancel_left]
 exact ⟨⟨⟨⟨c 0 (by omega), c 1 (by omega)⟩, c 2 (by omega), c 3 (by omega)⟩, ⟨c 4 (by omega), c 5 (by omega)⟩, c 6 (by omega), c 7 (by omega)⟩, ⟨c 8 (by omega), c 9 (by omega)⟩, c 10 (by omega)⟩
theorem own_frozen11 {w : World} {base n cap g : Nat} {e : TypeId} {xs : List Value} (h : w.ownsRow base e 11 (.slice (some ⟨g, 0, none⟩) n cap) n xs) (k : Nat) :
  (((w.frozen? ⟨g, k, none⟩ = false ∧ w.frozen? ⟨g, k + 1, none⟩ = false) ∧ (w.frozen? ⟨g, k + 2, none⟩ = false ∧ w.frozen? ⟨g, k + 3, none⟩ = false)) ∧ ((w.frozen? ⟨g, k + 4, none⟩ = false ∧ w.frozen? ⟨g, k + 5, none⟩ = false) ∧ (w.frozen? ⟨g, k + 6, none⟩ = false ∧ w.frozen? ⟨g, k + 7, none⟩ = false))) ∧ (w.frozen? ⟨g, k + 8, none⟩ = false ∧ w.frozen? ⟨g, k + 9, none⟩ = false) ∧ w.frozen? ⟨g, k + 10, none⟩ = false :=
 ⟨⟨⟨⟨h.frozenAt _, h.frozenAt _⟩, h.frozenAt _, h.frozenAt _⟩, ⟨h.frozenAt _, h.frozenAt _⟩, h.frozenAt _, h.frozenAt _⟩, ⟨h.frozenAt _, h.frozenAt _⟩, h.frozenAt _⟩
theorem own_put11 {w : World} {base n cap g : Nat} {e : TypeId} {xs : List Value} {z0 z1 z2 z3 z4 z5 z6 z7 z8 z9 z10 : Value} (h : w.ownsRow base e 11 (.slice (some ⟨g, 0, none⟩) n cap) n (xs ++ [z0, z1, z2, z3, z4, z5, z6, z7, z8, z9, z10])) {k : Nat} (hk : xs.length = k) (u0 u1 u2 u3 u4 u5 u6 u7 u8 u9 u10 : Value) :
  (((((((((((w.setCell ⟨g, k, none⟩ u0).setCell ⟨g, k + 1, none⟩ u1).setCell ⟨g, k + 2, none⟩ u2).setCell ⟨g, k + 3, none⟩ u3).setCell ⟨g, k + 4, none⟩ u4).setCell ⟨g, k + 5, none⟩ u5).setCell ⟨g, k + 6, none⟩ u6).setCell ⟨g, k + 7, none⟩ u7).setCell ⟨g, k + 8, none⟩ u8).setCell ⟨g, k + 9, none⟩ u9).setCell ⟨g, k + 10, none⟩ u10).ownsRow base e 11 (.slice (some ⟨g, 0, none⟩) n cap) n (xs ++ [u0, u1, u2, u3, u4, u5, u6, u7, u8, u9, u10]) := by
 have h0 := (h.stored k u0).1
 have h1 := (h0.stored (k + 1) u1).1
 have h2 := (h1.stored (k + 2) u2).1
 have h3 := (h2.stored (k + 3) u3).1
 have h4 := (h3.stored (k + 4) u4).1
 have h5 := (h4.stored (k + 5) u5).1
 have h6 := (h5.stored (k + 6) u6).1
 have h7 := (h6.stored (k + 7) u7).1
 have h8 := (h7.stored (k + 8) u8).1
 have h9 := (h8.stored (k + 9) u9).1
 have h10 := (h9.stored (k + 10) u10).1
 rw [set11_list xs _ _ _ _ _ _ _ _ _ _ _ u0 u1 u2 u3 u4 u5 u6 u7 u8 u9 u10 hk] at h10
 exact h10
def put11 (w : World) (g k : Nat) (u0 u1 u2 u3 u4 u5 u6 u7 u8 u9 u10 : Value) : World :=
 (((((((((((w.setCell ⟨g, k, none⟩ u0).setCell ⟨g, k + 1, none⟩ u1).setCell ⟨g, k + 2, none⟩ u2).setCell ⟨g, k + 3, none⟩ u3).setCell ⟨g, k + 4, none⟩ u4).setCell ⟨g, k + 5, none⟩ u5).setCell ⟨g, k + 6, none⟩ u6).setCell ⟨g, k + 7, none⟩ u7).setCell ⟨g, k + 8, none⟩ u8).setCell ⟨g, k + 9, none⟩ u9).setCell ⟨g, k + 10, none⟩ u10)
section
variable {w : World} {g k : Nat} {u0 u1 u2 u3 u4 u5 u6 u7 u8 u9 u10 : Value}
theorem put11_mod : Mod [g] w (put11 w g k u0 u1 u2 u3 u4 u5 u6 u7 u8 u9 u10) := by
 unfold put11
 iterate 11 refine Mod.set ?_ (.inl (by simp)) _
 exact Mod.refl _ _
theorem put11_size : (put11 w g k u0 u1 u2 u3 u4 u5 u6 u7 u8 u9 u10).heap.size = w.heap.size := by
 unfold put11
 simp
end
theorem app_keep {α : Type} {rep : World → (Nat → Prop) → α → List Value → Prop} (hkeep : ∀ (w w' : World) (S : Nat → Prop) (a : α) (vs : List Value), (∀ b, S b → w'.heap[b]? = w.heap[b]?) → rep w S a vs → rep w' S a vs)
  {w w' : World} {lo : Nat} {S : Nat → Prop} {l : List α} {xs : List Value} {v v' : Value} (h : Reps (rep w S) l xs) (hS : ∀ b, S b → lo ≤ b ∧ b < w.heap.size ∧ v.ownBlock ≠ some b) (hg : w.grownBy w' v.ownBlock) (hv : v'.ownBlock = v.ownBlock ∨ v'.ownBlock = some w.heap.size) :
  Reps (rep w' S) l xs ∧ ∀ b, S b → lo ≤ b ∧ b < w'.heap.size ∧ v'.ownBlock ≠ some b := by
 refine ⟨h.imp fun a vs => hkeep w w' S a vs fun b hb => hg.block b (hS b hb).2.1 (fun e => (hS b hb).2.2 e.symm), fun b hb => ?_⟩
 obtain ⟨h1, h2, h3⟩ := hS b hb
 refine ⟨h1, Nat.lt_of_lt_of_le h2 hg.size, fun e => ?_⟩
 rcases hv with hv | hv
 ·rw [hv] at e; exact h3 e
 ·rw [hv] at e; injection e with e; omega
theorem reps_two {α : Type} {rep : World → (Nat → Prop) → α → List Value → Prop} (hmono : ∀ (w : World) (S S' : Nat → Prop) (a : α) (vs : List Value), (∀ b, S b → S' b) → rep w S a vs → rep w S' a vs)
  {w : World} {S S' : Nat → Prop} {l : List α} {y : α} {xs ys : List Value} (h : Reps (rep w S) l xs) (k : rep w S' y ys) : Reps (rep w fun b => S b ∨ S' b) (l ++ [y]) (xs ++ ys) :=
 (h.imp fun a vs => hmono w S _ a vs fun b hb => .inl hb).append (.one (hmono w S' _ y ys (fun b hb => .inr hb) k))
theorem ex_keep (w w' : World) (S : Nat → Prop) (a : Ex) (vs : List Value) (h : ∀ b, S b → w'.heap[b]? = w.heap[b]?) (k : ExR w S a vs) : ExR w' S a vs := ExR.keep h a vs k
theorem ex_mono (w : World) (S S' : Nat → Prop) (a : Ex) (vs : List Value) (h : ∀ b, S b → S' b) (k : ExR w S a vs) : ExR w S' a vs := ExR.mono h a vs k
theorem st_keep (w w' : World) (S : Nat → Prop) (a : St) (vs : List Value) (h : ∀ b, S b → w'.heap[b]? = w.heap[b]?) (k : StR w S a vs) : StR w' S a vs := StR.keep h a vs k
theorem st_mono (w : World) (S S' : Nat → Prop) (a : St) (vs : List Value) (h : ∀ b, S b → S' b) (k : StR w S a vs) : StR w S' a vs := StR.mono h a vs k
structure Own (w : World) (lo : Nat) (e : TypeId) {α : Type} (rep : World → (Nat → Prop) → α → List Value → Prop) (A : Option Addr) (n c : Nat) (l : List α) : Prop where
 ex : ∃ xs S, w.ownsRow lo e 11 (.slice A n c) n xs ∧ Reps (rep w S) l xs ∧ ∀ b, S b → lo ≤ b ∧ b < w.heap.size ∧ (Value.slice A n c).ownBlock ≠ some b
theorem bind_assoc {α β γ : Type} (p : Res α) (f : α → List Tok → Res β) (k : β → List Tok → Res γ) : (p.bind f).bind k = p.bind fun a l => (f a l).bind k := by cases p <;> rfl
theorem Out.map {α β : Type} {bs : List Nat} {g d : Nat} {w : World} {R : Res α} {good : α → World → Value → Prop} {e : Ending} {w' : World} (h : Out bs g d w R good e w') (φ : α → β) {good' : β → World → Value → Prop} (hi : ∀ a w' v, good a w' v → good' (φ a) w' v) : Out bs g d w (R.bind fun a l => .ok (φ a) l) good' e w' := by
 refine ⟨h.1, ?_⟩
 have h2 := h.2
 cases R with
 | oof => exact h2
 | bad => exact h2
 | ok a l =>
  obtain ⟨p, v, e, hg⟩ := h2
  exact ⟨p, v, e, hi _ _ _ hg⟩
end Go.Proofs.YtnbmpfdffoidaaaGreatDoor.Y
