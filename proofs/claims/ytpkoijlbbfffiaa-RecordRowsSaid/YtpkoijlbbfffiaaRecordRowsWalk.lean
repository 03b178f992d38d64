/- RecordRows' walk: for every record, change and value it returns true. -/
import Derived.Test.YtpkoijlbbfffiaaRecSized
import Derived.Test.YtpkoijlbbfffiaaRecSame
import Derived.Test.YtpkoijlbbfffiaaRecRef2
import Derived.Test.YtpkoijlbbfffiaaRecordFacts
import Derived.Deep.DeepCutAuto
namespace Go.Proofs.Ytpkoijlbbfffiaa.recordRows
open Go.RowKit O V R

theorem KB.of_two {bs : List Nat} {N : Nat} {Wz w W : World} (h1 : Below N Wz w) (h2 : Below N Wz W) (hb : ∀ b ∈ bs, b < N) : KB bs w W := fun b hx => (h2.block b (hb b hx)).trans (h1.block b (hb b hx)).symm
theorem chgE : Elem Try.prog 35 42 4 48 (.agg #[.int .i64 0, .int .i64 0, .bool false, .slice none 0 0]) := by
  obtain ⟨i, hi, h1, h2, h3⟩ := info_parts (show (Try.prog.info? 42).map (fun i => (i.zero, i.size, i.bytes)) = some (some (.agg #[.int .i64 0, .int .i64 0, .bool false, .slice none 0 0]), 4, 48) by kernel_rfl)
  exact ⟨Try.underlying35, i, hi, h1, h2, h3, rfl, by omega⟩
theorem own_e (w : World) {base e size b : Nat} (hb : b = w.heap.size) (hB : base ≤ b) : (w.alloc (.cells #[] e)).ownsRow base e size (.slice (some ⟨b, 0, none⟩) 0 0) 0 [] := by
  subst hb
  exact World.ownsRow_made w #[] 0 hB (by simp) (by simp)
theorem rd_heap {w : World} {g size n : Nat} {cs : Array Value} {T : TypeId} (h : w.heap[g]? = some (.cells cs T (0, 0))) (hn : cs.size = n * size) : Rd w w.heap.size size (some ⟨g, 0, none⟩) n cs.toList := by
  refine ⟨by simpa using hn, fun _ => ⟨g, 0, rfl, (Array.getElem?_eq_some_iff.1 h).1, fun j hj => ?_⟩⟩
  rw [Nat.zero_add, cell_of_row w g j cs T _ h]
  simp
theorem reps_oneC {w : World} {l : List Chg} {xs : List Value} (h : Reps (ChC w) l xs) : ∀ u ∈ xs, u.oneCell' = true :=
  h.all (p := fun u => u.oneCell' = true) (by rintro a vs ⟨s, rfl, _⟩ u hu; simp at hu; rcases hu with rfl | rfl | rfl | rfl <;> rfl)
theorem reps_oneV {l : List Val} {xs : List Value} (h : Reps ValC l xs) : ∀ u ∈ xs, u.oneCell' = true :=
  h.all (p := fun u => u.oneCell' = true) (by rintro a vs ⟨rfl, _⟩ u hu; simp at hu; rcases hu with rfl | rfl | rfl <;> rfl)
theorem heap_set {w : World} {b i : Nat} {cs : Array Value} {T : TypeId} (hb : w.heap[b]? = some (.cells cs T (0, 0))) (v : Value) : (w.setCell ⟨b, i, none⟩ v).heap[b]? = some (.cells (cs.setIfInBounds i v) T (0, 0)) := by
  simp [World.setCell, Array.getElem?_modify, hb]
/-- What lies there: the record, the change, the value. -/
structure RX (w : World) (r : Rec) (s : RS) (x : Chg) (t : Sl) (v : Val) (W : World) : Prop where
  r : RBox w r s w.heap.size W
  x : W.heap[w.heap.size + 1]? = some (.cells #[.int .i64 x.table, .int .i64 x.key, .bool x.gone, .slice t.A t.n t.c] 42 (0, 0))
  v : W.heap[w.heap.size + 2]? = some (.cells #[.int .i64 v.k, .int .i64 v.n, .string ⟨v.s.toArray⟩] 23 (0, 0))
theorem RX.next {w W W' : World} {r : Rec} {s : RS} {x : Chg} {t : Sl} {v : Val} (h : RX w r s x t v W) (b : Below W.heap.size W W') : RX w r s x t v W' := ⟨h.r.next b, box_next h.x b, box_next h.v b⟩
theorem RX.below {w W W' : World} {N : Nat} {r : Rec} {s : RS} {x : Chg} {t : Sl} {v : Val} (h : RX w r s x t v W) (b : Below N W W') (hN : w.heap.size + 3 ≤ N) : RX w r s x t v W' :=
  ⟨⟨by rw [b.block _ (by omega)]; exact h.r.1, h.r.2.trans (b.mono (by omega))⟩, by rw [b.block _ (by omega)]; exact h.x, by rw [b.block _ (by omega)]; exact h.v⟩
def withC (r : Rec) (x : Chg) : Rec := { r with changes := r.changes ++ [x] }
def withE (r : Rec) (v : Val) : Rec := { r with emits := r.emits ++ [v] }
/-- Behind the second row: the record with a change more, whose row lies anew. -/
def RelC (w : World) (r : Rec) (s : RS) (x : Chg) (t : Sl) (v : Val) (W : World) : Prop := RX w r s x t v W ∧ ∃ S : Sl, HRow W S.A S.n S.c (r.changes ++ [x]) ∧ RBox w (withC r x) { s with c := S } (w.heap.size + 3) W
/-- Behind the fourth row: the record with a value more, too. -/
def RelE (w : World) (r : Rec) (s : RS) (x : Chg) (t : Sl) (v : Val) (g : Nat) (W : World) : Prop := RX w r s x t v W ∧ (∃ S : Sl, HRow W S.A S.n S.c (r.changes ++ [x]) ∧ RBox w (withC r x) { s with c := S } (w.heap.size + 3) W) ∧
  ∃ S : Sl, VRow W S.A S.n S.c (r.emits ++ [v]) ∧ RBox w (withE r v) { s with e := S } g W
structure RY (w : World) (r : Rec) (s : RS) (x : Chg) (t : Sl) (v : Val) (S2 S3 : Sl) (g : Nat) (W : World) : Prop where
  a : RX w r s x t v W
  y : RBox w (withC r x) { s with c := S2 } (w.heap.size + 3) W
  z : RBox w (withE r v) { s with e := S3 } g W
theorem RY.next {w W W' : World} {r : Rec} {s : RS} {x : Chg} {t : Sl} {v : Val} {S2 S3 : Sl} {g : Nat} (h : RY w r s x t v S2 S3 g W) (b : Below W.heap.size W W') : RY w r s x t v S2 S3 g W' := ⟨h.a.next b, h.y.next b, h.z.next b⟩
theorem light_of {r : Rec} {x : Chg} (h : lightRec (withC r x) = true) : lightRec r = true := by
  unfold lightRec lightH withC at h
  unfold lightRec lightH
  simp at h ⊢
  obtain ⟨h1, h2, h3, h4, h5⟩ := h
  exact ⟨h1, h2, h3, by omega, h5.1⟩
theorem right_of {r : Rec} {x : Chg} (h : rightRec (withC r x) = true) : rightRec r = true := by
  rw [rightRec_eq] at h ⊢
  unfold withC at h
  simp at h ⊢
  obtain ⟨h1, h2, h3, h4, h5⟩ := h
  exact ⟨h1, h2, h3, h4, h5.1⟩
theorem same_no {x y : Rec} (h : x ≠ y) : sameRec x y = false := by
  cases hq : sameRec x y
  · rfl
  · exact absurd (sameRec_iff.1 hq) h
theorem cells8 {W : World} {g : Nat} {x0 x1 x2 x3 x4 x5 x6 x7 : Value} {T : TypeId} (h : W.heap[g]? = some (.cells #[x0, x1, x2, x3, x4, x5, x6, x7] T (0, 0))) :
    ((W.cell? ⟨g, 0, none⟩ = some x0 ∧ W.cell? ⟨g, 1, none⟩ = some x1) ∧ (W.cell? ⟨g, 2, none⟩ = some x2 ∧ W.cell? ⟨g, 3, none⟩ = some x3)) ∧
    ((W.cell? ⟨g, 4, none⟩ = some x4 ∧ W.cell? ⟨g, 5, none⟩ = some x5) ∧ (W.cell? ⟨g, 6, none⟩ = some x6 ∧ W.cell? ⟨g, 7, none⟩ = some x7)) := by
  refine ⟨⟨⟨?_, ?_⟩, ?_, ?_⟩, ⟨?_, ?_⟩, ?_, ?_⟩ <;> (rw [Lib.cell_of_heap h]; rfl)
set_option maxRecDepth 100000 in
set_option maxHeartbeats 4000000 in
theorem first_c (r : Rec) (s : RS) (x : Chg) (t : Sl) (v : Val) (w : World) : True := trivial
set_option maxRecDepth 100000 in
set_option maxHeartbeats 4000000 in
theorem walk (v0 : Value) (r : Rec) (v1 : Value) (x : Chg) (v2 : Value) (v : Val) (w : World) (h0 : IsRecW w v0 r) (h1 : IsChg w v1 x) (h2 : IsVal v2 v) :
    Calls Try.prog 5 #[v0, v1, v2] w fun e w' => e = .returned (.bool true) ∧ Below w.heap.size w w' := by
  obtain ⟨⟨s, rfl, hr, hb⟩, hwc, hwe⟩ := h0
  obtain ⟨t, rfl, hx, hxb⟩ := h1
  obtain ⟨rfl, hv⟩ := h2
  have HR := Lib.hid hr
  have HX := Lib.hid hx
  have HV := Lib.hid hv
  have hcl := hr.c.len
  have hel := hr.e.len
  rw [hcl] at hwc
  rw [hel] at hwe
  clear hr hx hv hb hcl hel
  simp only [rv, cgv, vv]
  have Z : Hid (RX w r s x t v ((((w.alloc (.cells #[.int .i64 r.inst, .int .i64 r.proc, .int .i64 r.piece, .int .i64 r.fin, .slice s.a.A s.a.n s.a.c, .slice s.e.A s.e.n s.e.c, .slice s.l.A s.l.n s.l.c, .slice s.c.A s.c.n s.c.c] 37)).alloc (.cells #[.int .i64 x.table, .int .i64 x.key, .bool x.gone, .slice t.A t.n t.c] 42)).alloc (.cells #[.int .i64 v.k, .int .i64 v.n, .string ⟨v.s.toArray⟩] 23)).alloc (.cells #[.int .i64 r.inst, .int .i64 r.proc, .int .i64 r.piece, .int .i64 r.fin, .slice s.a.A s.a.n s.a.c, .slice s.e.A s.e.n s.e.c, .slice s.l.A s.l.n s.l.c, .slice s.c.A s.c.n s.c.c] 37))) := Lib.hid ⟨⟨by repeat (first | (refine alloc_at ?_; simp; done) | refine alloc_old' ?_), by repeat (first | exact Below.refl _ _ | refine Below.alloc ?_ (by simp <;> omega) _)⟩, by repeat (first | (refine alloc_at ?_; simp; done) | refine alloc_old' ?_), by repeat (first | (refine alloc_at ?_; simp; done) | refine alloc_old' ?_)⟩
  have ZB : Hid (RBox w r s (w.heap.size + 3) ((((w.alloc (.cells #[.int .i64 r.inst, .int .i64 r.proc, .int .i64 r.piece, .int .i64 r.fin, .slice s.a.A s.a.n s.a.c, .slice s.e.A s.e.n s.e.c, .slice s.l.A s.l.n s.l.c, .slice s.c.A s.c.n s.c.c] 37)).alloc (.cells #[.int .i64 x.table, .int .i64 x.key, .bool x.gone, .slice t.A t.n t.c] 42)).alloc (.cells #[.int .i64 v.k, .int .i64 v.n, .string ⟨v.s.toArray⟩] 23)).alloc (.cells #[.int .i64 r.inst, .int .i64 r.proc, .int .i64 r.piece, .int .i64 r.fin, .slice s.a.A s.a.n s.a.c, .slice s.e.A s.e.n s.e.c, .slice s.l.A s.l.n s.l.c, .slice s.c.A s.c.n s.c.c] 37))) := Lib.hid ⟨alloc_at (by simp), Z.out.r.2⟩
  have HS : Hid (((((w.alloc (.cells #[.int .i64 r.inst, .int .i64 r.proc, .int .i64 r.piece, .int .i64 r.fin, .slice s.a.A s.a.n s.a.c, .slice s.e.A s.e.n s.e.c, .slice s.l.A s.l.n s.l.c, .slice s.c.A s.c.n s.c.c] 37)).alloc (.cells #[.int .i64 x.table, .int .i64 x.key, .bool x.gone, .slice t.A t.n t.c] 42)).alloc (.cells #[.int .i64 v.k, .int .i64 v.n, .string ⟨v.s.toArray⟩] 23)).alloc (.cells #[.int .i64 r.inst, .int .i64 r.proc, .int .i64 r.piece, .int .i64 r.fin, .slice s.a.A s.a.n s.a.c, .slice s.e.A s.e.n s.e.c, .slice s.l.A s.l.n s.l.c, .slice s.c.A s.c.n s.c.c] 37)).heap.size = w.heap.size + 4) := Lib.hid (by simp)
  go_enter Try.func5, Try.ntmps5
  go_upto_region 2 with fail
  go_cut [20] (fun _ wx => RelC w r s x t v wx)
  case first =>
    obtain ⟨xs, hxs, hxr, hxc⟩ := HR.out.c
    have HXS0 := Lib.hid hxs
    have HXR := Lib.hid hxr
    have HXO := Lib.hid (reps_oneC hxr)
    clear hxs hxr hxc
    refine wp_region_plan [w.heap.size, w.heap.size + 1] (.read 1 (.read 2 (.read 4 (.two 0 5 (.two 3 5 (.call 5 (.call 6 (.read 7 (.call 8 .done)))) (.call 3 (.call 6 (.read 7 (.call 8 .done))))) (.call 0 (.call 3 (.call 6 (.read 7 (.call 8 .done))))))))) (by kernel_rfl) (by kernel_rfl) (fun _ _ d _ _ h => by cases d <;> exact h) ?_
    obtain ⟨Wz, hWz⟩ : ∃ Wz, ((((w.alloc (.cells #[.int .i64 r.inst, .int .i64 r.proc, .int .i64 r.piece, .int .i64 r.fin, .slice s.a.A s.a.n s.a.c, .slice s.e.A s.e.n s.e.c, .slice s.l.A s.l.n s.l.c, .slice s.c.A s.c.n s.c.c] 37)).alloc (.cells #[.int .i64 x.table, .int .i64 x.key, .bool x.gone, .slice t.A t.n t.c] 42)).alloc (.cells #[.int .i64 v.k, .int .i64 v.n, .string ⟨v.s.toArray⟩] 23)).alloc (.cells #[.int .i64 r.inst, .int .i64 r.proc, .int .i64 r.piece, .int .i64 r.fin, .slice s.a.A s.a.n s.a.c, .slice s.e.A s.e.n s.e.c, .slice s.l.A s.l.n s.l.c, .slice s.c.A s.c.n s.c.c] 37)).drew = Wz := ⟨_, rfl⟩
    have Z : Hid (RX w r s x t v Wz) := Lib.hid (hWz ▸ (Z.out.next (Below.refl _ _).drew))
    have ZB : Hid (RBox w r s (w.heap.size + 3) Wz) := Lib.hid (hWz ▸ (ZB.out.next (Below.refl _ _).drew))
    have HS : Hid (Wz.heap.size = w.heap.size + 4) := Lib.hid (hWz ▸ HS.out)
    rw [hWz]
    clear hWz
    obtain ⟨N, hN, hN'⟩ : ∃ N, w.heap.size + 4 ≤ N ∧ N ≤ w.heap.size + 4 := ⟨_, Nat.le_refl _, Nat.le_refl _⟩
    have HN : Hid (N ≤ Wz.heap.size) := Lib.hid (by have := HS.out; omega)
    have HXS : Hid (Rd Wz w.heap.size 4 s.c.A s.c.n xs) := Lib.hid (HXS0.out.below Z.out.r.2)
    have hbs : ∀ b ∈ [w.heap.size, w.heap.size + 1], b < N := by intro b hb; simp at hb; omega
    have hbn : ∀ b ∈ [w.heap.size, w.heap.size + 1], b ≠ w.heap.size + 3 := by intro b hb; simp at hb; omega
    refine pwith (fun W hW => (cells8 ((hW _ (by simp)).trans Z.out.r.1))) (fun q1 => ?_)
    refine pwith (fun W hW => (cells4 ((hW _ (by simp)).trans Z.out.x))) (fun q2 => ?_)
    repeat (first | (refine sreadxP rfl rfl ?_; apply Exists.intro; apply And.intro; (· (intro W hW; first | (go_simp; done) | (go_simp; with_reducible rfl) | (go_simp; rw [if_neg (by omega)]; done) | (go_simp; rw [if_neg (by omega)]; with_reducible rfl))); simp only [Act.put, List.setIfInBounds_toArray, List.set_cons_zero, List.set_cons_succ]) | (refine pskip rfl rfl ?_; simp only [Act.put, List.setIfInBounds_toArray, List.set_cons_zero, List.set_cons_succ]))
    obtain ⟨W0, hW0⟩ : ∃ W0, Wz = W0 := ⟨_, rfl⟩
    have B0 : Hid (Below N Wz W0) := Lib.hid (hW0 ▸ Below.refl _ _)
    have hz0 : N ≤ W0.heap.size := hW0 ▸ HN.out
    rw [hW0]
    clear hW0 q1 q2
    refine ptwo rfl rfl rfl rfl ?_ ?_
    · intro K hK
      go_simp
      refine hK.out _ _ (KB.of_two B0.out (B0.out.alloc hz0 _) hbs) ?_
      clear hK K
      try simp only [Act.put, List.setIfInBounds_toArray, List.set_cons_zero, List.set_cons_succ]
      obtain ⟨W1, hW1⟩ : ∃ W1, W0.alloc (.cells #[] 42) = W1 := ⟨_, rfl⟩
      have B1 : Hid (Below N Wz W1) := Lib.hid (by rw [← hW1]; exact B0.out.alloc hz0 _)
      have hz1 : N ≤ W1.heap.size := Nat.le_trans HN.out B1.out.size
      have he1 : W0.heap.size + 1 ≤ W1.heap.size ∧ W1.heap.size ≤ W0.heap.size + 1 := by rw [← hW1]; simp
      have HE1 : Hid (W1.ownsRow N 42 4 (.slice (some ⟨W0.heap.size, 0, none⟩) 0 0) 0 []) := Lib.hid (by rw [← hW1]; exact own_e W0 rfl hz0)
      rw [hW1]
      clear hW1
      refine ptwo rfl rfl rfl rfl ?_ ?_
      · intro K hK
        refine wp_app (.tmp 13) (.tmp 15) chgE rfl N [] rfl HE1.out rfl xs (HXS.out.below (B1.out.mono (by omega))) HXO.out (by unfold maxLen; omega) (by omega) hz1 ?_
        intro A1 c1 W2 o2 g2
        simp only [Nat.zero_add, List.nil_append] at o2
        have B2 : Hid (Below N Wz W2) := Lib.hid (below_app B1.out HE1.out g2 hz1)
        have hz2 : N ≤ W2.heap.size := Nat.le_trans HN.out B2.out.size
        have HA2 := Lib.hid o2
        refine hK.out _ _ (KB.of_two B1.out B2.out hbs) ?_
        clear hK K o2
        try simp only [Act.put, List.setIfInBounds_toArray, List.set_cons_zero, List.set_cons_succ]
        try simp only [Nat.zero_add]
        refine pcall rfl rfl (fun K hK => ?_)
        go_simp
        refine hK.out _ _ (KB.of_two B2.out (B2.out.alloc hz2 _) hbs) ?_
        clear hK K
        try simp only [Act.put, List.setIfInBounds_toArray, List.set_cons_zero, List.set_cons_succ]
        obtain ⟨W3, hW3⟩ : ∃ W3, W2.alloc (.cells #[.int .i64 x.table, .int .i64 x.key, .bool x.gone, .slice t.A t.n t.c] 42) = W3 := ⟨_, rfl⟩
        have B3 : Hid (Below N Wz W3) := Lib.hid (by rw [← hW3]; exact B2.out.alloc hz2 _)
        have hz3 : N ≤ W3.heap.size := Nat.le_trans HN.out B3.out.size
        have he3 : W2.heap.size + 1 ≤ W3.heap.size ∧ W3.heap.size ≤ W2.heap.size + 1 := by rw [← hW3]; simp
        have HO3 : Hid (W3.heap[W2.heap.size]? = some (.cells #[.int .i64 x.table, .int .i64 x.key, .bool x.gone, .slice t.A t.n t.c] 42 (0, 0))) := Lib.hid (by rw [← hW3]; exact alloc_at rfl)
        have HA3 := Lib.hid (hW3 ▸ HA2.out.alloc _ : W3.ownsRow _ _ _ _ _ _)
        rw [hW3]
        clear hW3
        refine pcall rfl rfl (fun K hK => ?_)
        refine wp_app (.tmp 16) (.tmp 18) chgE rfl N _ rfl HA3.out rfl [.int .i64 x.table, .int .i64 x.key, .bool x.gone, .slice t.A t.n t.c] (rd_heap HO3.out rfl) (by intro u hu; simp at hu; rcases hu with rfl | rfl | rfl | rfl <;> rfl) (by unfold maxLen; omega) (by omega) hz3 ?_
        intro A2 c2 W4 o4 g4
        have B4 : Hid (Below N Wz W4) := Lib.hid (below_app B3.out HA3.out g4 hz3)
        have hz4 : N ≤ W4.heap.size := Nat.le_trans HN.out B4.out.size
        have HA4 := Lib.hid o4
        refine hK.out _ _ (KB.of_two B3.out B4.out hbs) ?_
        clear hK K o4 g4
        try simp only [Act.put, List.setIfInBounds_toArray, List.set_cons_zero, List.set_cons_succ]
        repeat (first | (refine sreadxP rfl rfl ?_; apply Exists.intro; apply And.intro; (· (intro W hW; first | (go_simp; done) | (go_simp; with_reducible rfl) | (go_simp; rw [if_neg (by omega)]; done) | (go_simp; rw [if_neg (by omega)]; with_reducible rfl))); simp only [Act.put, List.setIfInBounds_toArray, List.set_cons_zero, List.set_cons_succ]) | (refine pskip rfl rfl ?_; simp only [Act.put, List.setIfInBounds_toArray, List.set_cons_zero, List.set_cons_succ]))
        have hbx : W4.heap[w.heap.size + 3]? = some (.cells #[.int .i64 r.inst, .int .i64 r.proc, .int .i64 r.piece, .int .i64 r.fin, .slice s.a.A s.a.n s.a.c, .slice s.e.A s.e.n s.e.c, .slice s.l.A s.l.n s.l.c, .slice s.c.A s.c.n s.c.c] 37 (0, 0)) := by rw [B4.out.block _ (by omega)]; exact ZB.out.1
        have hbc : W4.cell? ⟨w.heap.size + 3, 7, none⟩ = some (.slice s.c.A s.c.n s.c.c) := by rw [Lib.cell_of_heap hbx]; rfl
        have hbf : W4.frozen? ⟨w.heap.size + 3, 7, none⟩ = false := Lib.frozen_of_heap hbx 7
        refine pcall rfl rfl (fun K hK => ?_)
        go_simp
        refine hK.out _ _ (fun b hb => Below.heap_setCell _ _ _ _ (hbn b hb)) ?_
        clear hK K hbc hbf
        try simp only [Act.put, List.setIfInBounds_toArray, List.set_cons_zero, List.set_cons_succ]
        refine pdone ?_
        go_wp2_with fail
        go_meet
        have BW : Below (w.heap.size + 3) Wz (W4.setCell ⟨w.heap.size + 3, 7, none⟩ (.slice A2 (s.c.n + 1) c2)) := Below.setCell (B := w.heap.size + 3) (p := ⟨w.heap.size + 3, 7, none⟩) (B4.out.mono (show w.heap.size + 3 ≤ N by omega)) (Nat.le_refl _) _
        have BX := Z.out.below BW (Nat.le_refl _)
        have hne : (Value.slice A2 (s.c.n + 1) c2).ownBlock ≠ some (w.heap.size + 3) := fun e => by have := (HA4.out.lt _ e).1; omega
        refine ⟨BX, ⟨A2, s.c.n + 1, c2⟩, ⟨_, Rd.of_own (own_set HA4.out _ hne), ?_, (own_capG HA4.out).1, (own_capG HA4.out).2⟩, ⟨?_, BX.r.2⟩⟩
        · exact (HXR.out.imp (fun a vs ⟨q, e, hv, r⟩ => ⟨q, e, hv.next BX.r.2, r⟩)).append (.one ⟨t, rfl, HX.out.next BX.r.2, hxb⟩)
        · have := heap_set (i := 7) hbx (.slice A2 (s.c.n + 1) c2)
          exact this
      · intro K hK
        go_simp
        refine hK.out _ _ (KB.of_two B1.out (B1.out.alloc hz1 _) hbs) ?_
        clear hK K
        try simp only [Act.put, List.setIfInBounds_toArray, List.set_cons_zero, List.set_cons_succ]
        obtain ⟨W2, hW2⟩ : ∃ W2, W1.alloc (.cells #[.int .i64 x.table, .int .i64 x.key, .bool x.gone, .slice t.A t.n t.c] 42) = W2 := ⟨_, rfl⟩
        have B2 : Hid (Below N Wz W2) := Lib.hid (by rw [← hW2]; exact B1.out.alloc hz1 _)
        have hz2 : N ≤ W2.heap.size := Nat.le_trans HN.out B2.out.size
        have he2 : W1.heap.size + 1 ≤ W2.heap.size ∧ W2.heap.size ≤ W1.heap.size + 1 := by rw [← hW2]; simp
        have HO2 : Hid (W2.heap[W1.heap.size]? = some (.cells #[.int .i64 x.table, .int .i64 x.key, .bool x.gone, .slice t.A t.n t.c] 42 (0, 0))) := Lib.hid (by rw [← hW2]; exact alloc_at rfl)
        have HE2 := Lib.hid (hW2 ▸ HE1.out.alloc _ : W2.ownsRow _ _ _ _ _ _)
        rw [hW2]
        clear hW2
        refine pcall rfl rfl (fun K hK => ?_)
        refine wp_app (.tmp 13) (.tmp 15) chgE rfl N [] rfl HE2.out rfl xs (HXS.out.below (B2.out.mono (by omega))) HXO.out (by unfold maxLen; omega) (by omega) hz2 ?_
        intro A1 c1 W3 o3 g3
        simp only [Nat.zero_add, List.nil_append] at o3
        have B3 : Hid (Below N Wz W3) := Lib.hid (below_app B2.out HE2.out g3 hz2)
        have hz3 : N ≤ W3.heap.size := Nat.le_trans HN.out B3.out.size
        have HA3 := Lib.hid o3
        refine hK.out _ _ (KB.of_two B2.out B3.out hbs) ?_
        clear hK K o3
        try simp only [Act.put, List.setIfInBounds_toArray, List.set_cons_zero, List.set_cons_succ]
        try simp only [Nat.zero_add]
        have HO3 := Lib.hid (box_grown HO2.out g3 (fun j hj => by simp [Value.ownBlock] at hj; omega))
        refine pcall rfl rfl (fun K hK => ?_)
        refine wp_app (.tmp 16) (.tmp 18) chgE rfl N _ rfl HA3.out rfl [.int .i64 x.table, .int .i64 x.key, .bool x.gone, .slice t.A t.n t.c] (rd_heap HO3.out rfl) (by intro u hu; simp at hu; rcases hu with rfl | rfl | rfl | rfl <;> rfl) (by unfold maxLen; omega) (by omega) hz3 ?_
        intro A2 c2 W4 o4 g4
        have B4 : Hid (Below N Wz W4) := Lib.hid (below_app B3.out HA3.out g4 hz3)
        have hz4 : N ≤ W4.heap.size := Nat.le_trans HN.out B4.out.size
        have HA4 := Lib.hid o4
        refine hK.out _ _ (KB.of_two B3.out B4.out hbs) ?_
        clear hK K o4 g4
        try simp only [Act.put, List.setIfInBounds_toArray, List.set_cons_zero, List.set_cons_succ]
        repeat (first | (refine sreadxP rfl rfl ?_; apply Exists.intro; apply And.intro; (· (intro W hW; first | (go_simp; done) | (go_simp; with_reducible rfl) | (go_simp; rw [if_neg (by omega)]; done) | (go_simp; rw [if_neg (by omega)]; with_reducible rfl))); simp only [Act.put, List.setIfInBounds_toArray, List.set_cons_zero, List.set_cons_succ]) | (refine pskip rfl rfl ?_; simp only [Act.put, List.setIfInBounds_toArray, List.set_cons_zero, List.set_cons_succ]))
        have hbx : W4.heap[w.heap.size + 3]? = some (.cells #[.int .i64 r.inst, .int .i64 r.proc, .int .i64 r.piece, .int .i64 r.fin, .slice s.a.A s.a.n s.a.c, .slice s.e.A s.e.n s.e.c, .slice s.l.A s.l.n s.l.c, .slice s.c.A s.c.n s.c.c] 37 (0, 0)) := by rw [B4.out.block _ (by omega)]; exact ZB.out.1
        have hbc : W4.cell? ⟨w.heap.size + 3, 7, none⟩ = some (.slice s.c.A s.c.n s.c.c) := by rw [Lib.cell_of_heap hbx]; rfl
        have hbf : W4.frozen? ⟨w.heap.size + 3, 7, none⟩ = false := Lib.frozen_of_heap hbx 7
        refine pcall rfl rfl (fun K hK => ?_)
        go_simp
        refine hK.out _ _ (fun b hb => Below.heap_setCell _ _ _ _ (hbn b hb)) ?_
        clear hK K hbc hbf
        try simp only [Act.put, List.setIfInBounds_toArray, List.set_cons_zero, List.set_cons_succ]
        refine pdone ?_
        go_wp2_with fail
        go_meet
        have BW : Below (w.heap.size + 3) Wz (W4.setCell ⟨w.heap.size + 3, 7, none⟩ (.slice A2 (s.c.n + 1) c2)) := Below.setCell (B := w.heap.size + 3) (p := ⟨w.heap.size + 3, 7, none⟩) (B4.out.mono (show w.heap.size + 3 ≤ N by omega)) (Nat.le_refl _) _
        have BX := Z.out.below BW (Nat.le_refl _)
        have hne : (Value.slice A2 (s.c.n + 1) c2).ownBlock ≠ some (w.heap.size + 3) := fun e => by have := (HA4.out.lt _ e).1; omega
        refine ⟨BX, ⟨A2, s.c.n + 1, c2⟩, ⟨_, Rd.of_own (own_set HA4.out _ hne), ?_, (own_capG HA4.out).1, (own_capG HA4.out).2⟩, ⟨?_, BX.r.2⟩⟩
        · exact (HXR.out.imp (fun a vs ⟨q, e, hv, r⟩ => ⟨q, e, hv.next BX.r.2, r⟩)).append (.one ⟨t, rfl, HX.out.next BX.r.2, hxb⟩)
        · have := heap_set (i := 7) hbx (.slice A2 (s.c.n + 1) c2)
          exact this
    · intro K hK
      go_simp
      refine hK.out _ _ (KB.of_two B0.out (B0.out.alloc hz0 _) hbs) ?_
      clear hK K
      try simp only [Act.put, List.setIfInBounds_toArray, List.set_cons_zero, List.set_cons_succ]
      obtain ⟨W1, hW1⟩ : ∃ W1, W0.alloc (.cells #[.int .i64 x.table, .int .i64 x.key, .bool x.gone, .slice t.A t.n t.c] 42) = W1 := ⟨_, rfl⟩
      have B1 : Hid (Below N Wz W1) := Lib.hid (by rw [← hW1]; exact B0.out.alloc hz0 _)
      have hz1 : N ≤ W1.heap.size := Nat.le_trans HN.out B1.out.size
      have he1 : W0.heap.size + 1 ≤ W1.heap.size ∧ W1.heap.size ≤ W0.heap.size + 1 := by rw [← hW1]; simp
      have HO1 : Hid (W1.heap[W0.heap.size]? = some (.cells #[.int .i64 x.table, .int .i64 x.key, .bool x.gone, .slice t.A t.n t.c] 42 (0, 0))) := Lib.hid (by rw [← hW1]; exact alloc_at rfl)
      rw [hW1]
      clear hW1
      refine pcall rfl rfl (fun K hK => ?_)
      go_simp
      refine hK.out _ _ (KB.of_two B1.out (B1.out.alloc hz1 _) hbs) ?_
      clear hK K
      try simp only [Act.put, List.setIfInBounds_toArray, List.set_cons_zero, List.set_cons_succ]
      obtain ⟨W2, hW2⟩ : ∃ W2, W1.alloc (.cells #[] 42) = W2 := ⟨_, rfl⟩
      have B2 : Hid (Below N Wz W2) := Lib.hid (by rw [← hW2]; exact B1.out.alloc hz1 _)
      have hz2 : N ≤ W2.heap.size := Nat.le_trans HN.out B2.out.size
      have he2 : W1.heap.size + 1 ≤ W2.heap.size ∧ W2.heap.size ≤ W1.heap.size + 1 := by rw [← hW2]; simp
      have HE2 : Hid (W2.ownsRow N 42 4 (.slice (some ⟨W1.heap.size, 0, none⟩) 0 0) 0 []) := Lib.hid (by rw [← hW2]; exact own_e W1 rfl hz1)
      have HO2 := Lib.hid (hW2 ▸ alloc_old' HO1.out : W2.heap[_]? = _)
      rw [hW2]
      clear hW2
      refine pcall rfl rfl (fun K hK => ?_)
      refine wp_app (.tmp 13) (.tmp 15) chgE rfl N [] rfl HE2.out rfl xs (HXS.out.below (B2.out.mono (by omega))) HXO.out (by unfold maxLen; omega) (by omega) hz2 ?_
      intro A1 c1 W3 o3 g3
      simp only [Nat.zero_add, List.nil_append] at o3
      have B3 : Hid (Below N Wz W3) := Lib.hid (below_app B2.out HE2.out g3 hz2)
      have hz3 : N ≤ W3.heap.size := Nat.le_trans HN.out B3.out.size
      have HA3 := Lib.hid o3
      refine hK.out _ _ (KB.of_two B2.out B3.out hbs) ?_
      clear hK K o3
      try simp only [Act.put, List.setIfInBounds_toArray, List.set_cons_zero, List.set_cons_succ]
      try simp only [Nat.zero_add]
      have HO3 := Lib.hid (box_grown HO2.out g3 (fun j hj => by simp [Value.ownBlock] at hj; omega))
      refine pcall rfl rfl (fun K hK => ?_)
      refine wp_app (.tmp 16) (.tmp 18) chgE rfl N _ rfl HA3.out rfl [.int .i64 x.table, .int .i64 x.key, .bool x.gone, .slice t.A t.n t.c] (rd_heap HO3.out rfl) (by intro u hu; simp at hu; rcases hu with rfl | rfl | rfl | rfl <;> rfl) (by unfold maxLen; omega) (by omega) hz3 ?_
      intro A2 c2 W4 o4 g4
      have B4 : Hid (Below N Wz W4) := Lib.hid (below_app B3.out HA3.out g4 hz3)
      have hz4 : N ≤ W4.heap.size := Nat.le_trans HN.out B4.out.size
      have HA4 := Lib.hid o4
      refine hK.out _ _ (KB.of_two B3.out B4.out hbs) ?_
      clear hK K o4 g4
      try simp only [Act.put, List.setIfInBounds_toArray, List.set_cons_zero, List.set_cons_succ]
      repeat (first | (refine sreadxP rfl rfl ?_; apply Exists.intro; apply And.intro; (· (intro W hW; first | (go_simp; done) | (go_simp; with_reducible rfl) | (go_simp; rw [if_neg (by omega)]; done) | (go_simp; rw [if_neg (by omega)]; with_reducible rfl))); simp only [Act.put, List.setIfInBounds_toArray, List.set_cons_zero, List.set_cons_succ]) | (refine pskip rfl rfl ?_; simp only [Act.put, List.setIfInBounds_toArray, List.set_cons_zero, List.set_cons_succ]))
      have hbx : W4.heap[w.heap.size + 3]? = some (.cells #[.int .i64 r.inst, .int .i64 r.proc, .int .i64 r.piece, .int .i64 r.fin, .slice s.a.A s.a.n s.a.c, .slice s.e.A s.e.n s.e.c, .slice s.l.A s.l.n s.l.c, .slice s.c.A s.c.n s.c.c] 37 (0, 0)) := by rw [B4.out.block _ (by omega)]; exact ZB.out.1
      have hbc : W4.cell? ⟨w.heap.size + 3, 7, none⟩ = some (.slice s.c.A s.c.n s.c.c) := by rw [Lib.cell_of_heap hbx]; rfl
      have hbf : W4.frozen? ⟨w.heap.size + 3, 7, none⟩ = false := Lib.frozen_of_heap hbx 7
      refine pcall rfl rfl (fun K hK => ?_)
      go_simp
      refine hK.out _ _ (fun b hb => Below.heap_setCell _ _ _ _ (hbn b hb)) ?_
      clear hK K hbc hbf
      try simp only [Act.put, List.setIfInBounds_toArray, List.set_cons_zero, List.set_cons_succ]
      refine pdone ?_
      go_wp2_with fail
      go_meet
      have BW : Below (w.heap.size + 3) Wz (W4.setCell ⟨w.heap.size + 3, 7, none⟩ (.slice A2 (s.c.n + 1) c2)) := Below.setCell (B := w.heap.size + 3) (p := ⟨w.heap.size + 3, 7, none⟩) (B4.out.mono (show w.heap.size + 3 ≤ N by omega)) (Nat.le_refl _) _
      have BX := Z.out.below BW (Nat.le_refl _)
      have hne : (Value.slice A2 (s.c.n + 1) c2).ownBlock ≠ some (w.heap.size + 3) := fun e => by have := (HA4.out.lt _ e).1; omega
      refine ⟨BX, ⟨A2, s.c.n + 1, c2⟩, ⟨_, Rd.of_own (own_set HA4.out _ hne), ?_, (own_capG HA4.out).1, (own_capG HA4.out).2⟩, ⟨?_, BX.r.2⟩⟩
      · exact (HXR.out.imp (fun a vs ⟨q, e, hv, r⟩ => ⟨q, e, hv.next BX.r.2, r⟩)).append (.one ⟨t, rfl, HX.out.next BX.r.2, hxb⟩)
      · have := heap_set (i := 7) hbx (.slice A2 (s.c.n + 1) c2)
        exact this
  case rest =>
    obtain ⟨BX, S, hrow, hbox⟩ := hcut
    obtain ⟨w4, hw4⟩ : ∃ w4, w4 = wc := ⟨_, rfl⟩
    subst hw4
    clear Z ZB HS
    have X4 := Lib.hid BX
    have HC := Lib.hid hrow
    have RC := Lib.hid hbox
    have h3 : w.heap.size + 3 ≤ w4.heap.size := by have := (Array.getElem?_eq_some_iff.1 hbox.1).1; omega
    clear BX hrow hbox
    obtain ⟨⟨⟨x0, x1⟩, x2, x3⟩, ⟨x4, x5⟩, x6, x7⟩ := X4.out.r.cells
    go_upto_region 4 with fail
    clear x0 x1 x2 x3 x4 x5 x6 x7
    go_cut [29] (fun _ wx => RelE w r s x t v w4.heap.size wx)
    case first =>
      obtain ⟨xs, hxs, hxr, hxc⟩ := HR.out.e
      have HXS0 := Lib.hid hxs
      have HXR := Lib.hid hxr
      have HXO := Lib.hid (reps_oneV hxr)
      clear hxs hxr hxc
      refine wp_region_plan [w.heap.size, w.heap.size + 2] (.read 1 (.read 2 (.read 4 (.two 0 5 (.two 3 5 (.call 5 (.call 6 (.read 7 (.call 8 .done)))) (.call 3 (.call 6 (.read 7 (.call 8 .done))))) (.call 0 (.call 3 (.call 6 (.read 7 (.call 8 .done))))))))) (by kernel_rfl) (by kernel_rfl) (fun _ _ d _ _ h => by cases d <;> exact h) ?_
      obtain ⟨Wz, hWz⟩ : ∃ Wz, (w4.alloc (.cells #[.int .i64 r.inst, .int .i64 r.proc, .int .i64 r.piece, .int .i64 r.fin, .slice s.a.A s.a.n s.a.c, .slice s.e.A s.e.n s.e.c, .slice s.l.A s.l.n s.l.c, .slice s.c.A s.c.n s.c.c] 37)).drew = Wz := ⟨_, rfl⟩
      have HBZ : Hid (Below w4.heap.size w4 Wz) := Lib.hid (hWz ▸ (((Below.refl _ _).alloc (Nat.le_refl _) _).drew))
      have Z : Hid (RX w r s x t v Wz) := Lib.hid (X4.out.next HBZ.out)
      have ZB : Hid (RBox w r s w4.heap.size Wz) := Lib.hid ⟨hWz ▸ alloc_at rfl, Z.out.r.2⟩
      have HS : Hid (Wz.heap.size = w4.heap.size + 1) := Lib.hid (by rw [← hWz]; simp)
      rw [hWz]
      clear hWz
      obtain ⟨N, hN, hN'⟩ : ∃ N, w4.heap.size + 1 ≤ N ∧ N ≤ w4.heap.size + 1 := ⟨_, Nat.le_refl _, Nat.le_refl _⟩
      have HN : Hid (N ≤ Wz.heap.size) := Lib.hid (by have := HS.out; omega)
      have HXS : Hid (Rd Wz w.heap.size 3 s.e.A s.e.n xs) := Lib.hid (HXS0.out.below Z.out.r.2)
      have hbs : ∀ b ∈ [w.heap.size, w.heap.size + 2], b < N := by intro b hb; simp at hb; omega
      have hbn : ∀ b ∈ [w.heap.size, w.heap.size + 2], b ≠ w4.heap.size := by intro b hb; simp at hb; omega
      refine pwith (fun W hW => (cells8 ((hW _ (by simp)).trans Z.out.r.1))) (fun q1 => ?_)
      refine pwith (fun W hW => (cells3 ((hW _ (by simp)).trans Z.out.v))) (fun q2 => ?_)
      repeat (first | (refine sreadxP rfl rfl ?_; apply Exists.intro; apply And.intro; (· (intro W hW; first | (go_simp; done) | (go_simp; with_reducible rfl) | (go_simp; rw [if_neg (by omega)]; done) | (go_simp; rw [if_neg (by omega)]; with_reducible rfl))); simp only [Act.put, List.setIfInBounds_toArray, List.set_cons_zero, List.set_cons_succ]) | (refine pskip rfl rfl ?_; simp only [Act.put, List.setIfInBounds_toArray, List.set_cons_zero, List.set_cons_succ]))
      obtain ⟨W0, hW0⟩ : ∃ W0, Wz = W0 := ⟨_, rfl⟩
      have B0 : Hid (Below N Wz W0) := Lib.hid (hW0 ▸ Below.refl _ _)
      have hz0 : N ≤ W0.heap.size := hW0 ▸ HN.out
      rw [hW0]
      clear hW0 q1 q2
      refine ptwo rfl rfl rfl rfl ?_ ?_
      · intro K hK
        go_simp
        refine hK.out _ _ (KB.of_two B0.out (B0.out.alloc hz0 _) hbs) ?_
        clear hK K
        try simp only [Act.put, List.setIfInBounds_toArray, List.set_cons_zero, List.set_cons_succ]
        obtain ⟨W1, hW1⟩ : ∃ W1, W0.alloc (.cells #[] 23) = W1 := ⟨_, rfl⟩
        have B1 : Hid (Below N Wz W1) := Lib.hid (by rw [← hW1]; exact B0.out.alloc hz0 _)
        have hz1 : N ≤ W1.heap.size := Nat.le_trans HN.out B1.out.size
        have he1 : W0.heap.size + 1 ≤ W1.heap.size ∧ W1.heap.size ≤ W0.heap.size + 1 := by rw [← hW1]; simp
        have HE1 : Hid (W1.ownsRow N 23 3 (.slice (some ⟨W0.heap.size, 0, none⟩) 0 0) 0 []) := Lib.hid (by rw [← hW1]; exact own_e W0 rfl hz0)
        rw [hW1]
        clear hW1
        refine ptwo rfl rfl rfl rfl ?_ ?_
        · intro K hK
          refine wp_app (.tmp 22) (.tmp 24) valE rfl N [] rfl HE1.out rfl xs (HXS.out.below (B1.out.mono (by omega))) HXO.out (by unfold maxLen; omega) (by omega) hz1 ?_
          intro A1 c1 W2 o2 g2
          simp only [Nat.zero_add, List.nil_append] at o2
          have B2 : Hid (Below N Wz W2) := Lib.hid (below_app B1.out HE1.out g2 hz1)
          have hz2 : N ≤ W2.heap.size := Nat.le_trans HN.out B2.out.size
          have HA2 := Lib.hid o2
          refine hK.out _ _ (KB.of_two B1.out B2.out hbs) ?_
          clear hK K o2
          try simp only [Act.put, List.setIfInBounds_toArray, List.set_cons_zero, List.set_cons_succ]
          try simp only [Nat.zero_add]
          refine pcall rfl rfl (fun K hK => ?_)
          go_simp
          refine hK.out _ _ (KB.of_two B2.out (B2.out.alloc hz2 _) hbs) ?_
          clear hK K
          try simp only [Act.put, List.setIfInBounds_toArray, List.set_cons_zero, List.set_cons_succ]
          obtain ⟨W3, hW3⟩ : ∃ W3, W2.alloc (.cells #[.int .i64 v.k, .int .i64 v.n, .string ⟨v.s.toArray⟩] 23) = W3 := ⟨_, rfl⟩
          have B3 : Hid (Below N Wz W3) := Lib.hid (by rw [← hW3]; exact B2.out.alloc hz2 _)
          have hz3 : N ≤ W3.heap.size := Nat.le_trans HN.out B3.out.size
          have he3 : W2.heap.size + 1 ≤ W3.heap.size ∧ W3.heap.size ≤ W2.heap.size + 1 := by rw [← hW3]; simp
          have HO3 : Hid (W3.heap[W2.heap.size]? = some (.cells #[.int .i64 v.k, .int .i64 v.n, .string ⟨v.s.toArray⟩] 23 (0, 0))) := Lib.hid (by rw [← hW3]; exact alloc_at rfl)
          have HA3 := Lib.hid (hW3 ▸ HA2.out.alloc _ : W3.ownsRow _ _ _ _ _ _)
          rw [hW3]
          clear hW3
          refine pcall rfl rfl (fun K hK => ?_)
          refine wp_app (.tmp 25) (.tmp 27) valE rfl N _ rfl HA3.out rfl [.int .i64 v.k, .int .i64 v.n, .string ⟨v.s.toArray⟩] (rd_heap HO3.out rfl) (by intro u hu; simp at hu; rcases hu with rfl | rfl | rfl <;> rfl) (by unfold maxLen; omega) (by omega) hz3 ?_
          intro A2 c2 W4 o4 g4
          have B4 : Hid (Below N Wz W4) := Lib.hid (below_app B3.out HA3.out g4 hz3)
          have hz4 : N ≤ W4.heap.size := Nat.le_trans HN.out B4.out.size
          have HA4 := Lib.hid o4
          refine hK.out _ _ (KB.of_two B3.out B4.out hbs) ?_
          clear hK K o4 g4
          try simp only [Act.put, List.setIfInBounds_toArray, List.set_cons_zero, List.set_cons_succ]
          repeat (first | (refine sreadxP rfl rfl ?_; apply Exists.intro; apply And.intro; (· (intro W hW; first | (go_simp; done) | (go_simp; with_reducible rfl) | (go_simp; rw [if_neg (by omega)]; done) | (go_simp; rw [if_neg (by omega)]; with_reducible rfl))); simp only [Act.put, List.setIfInBounds_toArray, List.set_cons_zero, List.set_cons_succ]) | (refine pskip rfl rfl ?_; simp only [Act.put, List.setIfInBounds_toArray, List.set_cons_zero, List.set_cons_succ]))
          have hbx : W4.heap[w4.heap.size]? = some (.cells #[.int .i64 r.inst, .int .i64 r.proc, .int .i64 r.piece, .int .i64 r.fin, .slice s.a.A s.a.n s.a.c, .slice s.e.A s.e.n s.e.c, .slice s.l.A s.l.n s.l.c, .slice s.c.A s.c.n s.c.c] 37 (0, 0)) := by rw [B4.out.block _ (by omega)]; exact ZB.out.1
          have hbc : W4.cell? ⟨w4.heap.size, 5, none⟩ = some (.slice s.e.A s.e.n s.e.c) := by rw [Lib.cell_of_heap hbx]; rfl
          have hbf : W4.frozen? ⟨w4.heap.size, 5, none⟩ = false := Lib.frozen_of_heap hbx 5
          refine pcall rfl rfl (fun K hK => ?_)
          go_simp
          refine hK.out _ _ (fun b hb => Below.heap_setCell _ _ _ _ (hbn b hb)) ?_
          clear hK K hbc hbf
          try simp only [Act.put, List.setIfInBounds_toArray, List.set_cons_zero, List.set_cons_succ]
          refine pdone ?_
          go_wp2_with fail
          go_meet
          have BW : Below w4.heap.size Wz (W4.setCell ⟨w4.heap.size, 5, none⟩ (.slice A2 (s.e.n + 1) c2)) := Below.setCell (B := w4.heap.size) (p := ⟨w4.heap.size, 5, none⟩) (B4.out.mono (show w4.heap.size ≤ N by omega)) (Nat.le_refl _) _
          have BX := Z.out.below BW h3
          have hne : (Value.slice A2 (s.e.n + 1) c2).ownBlock ≠ some w4.heap.size := fun e => by have := (HA4.out.lt _ e).1; omega
          have BZ := HBZ.out.trans BW
          refine ⟨BX, ⟨S, HC.out.next BZ, RC.out.next BZ⟩, ⟨A2, s.e.n + 1, c2⟩, ⟨_, Rd.of_own (own_set HA4.out _ hne), HXR.out.append (.one ⟨rfl, HV.out⟩), (own_capG HA4.out).1, (own_capG HA4.out).2⟩, ⟨?_, BX.r.2⟩⟩
          have := heap_set (i := 5) hbx (.slice A2 (s.e.n + 1) c2)
          exact this
        · intro K hK
          go_simp
          refine hK.out _ _ (KB.of_two B1.out (B1.out.alloc hz1 _) hbs) ?_
          clear hK K
          try simp only [Act.put, List.setIfInBounds_toArray, List.set_cons_zero, List.set_cons_succ]
          obtain ⟨W2, hW2⟩ : ∃ W2, W1.alloc (.cells #[.int .i64 v.k, .int .i64 v.n, .string ⟨v.s.toArray⟩] 23) = W2 := ⟨_, rfl⟩
          have B2 : Hid (Below N Wz W2) := Lib.hid (by rw [← hW2]; exact B1.out.alloc hz1 _)
          have hz2 : N ≤ W2.heap.size := Nat.le_trans HN.out B2.out.size
          have he2 : W1.heap.size + 1 ≤ W2.heap.size ∧ W2.heap.size ≤ W1.heap.size + 1 := by rw [← hW2]; simp
          have HO2 : Hid (W2.heap[W1.heap.size]? = some (.cells #[.int .i64 v.k, .int .i64 v.n, .string ⟨v.s.toArray⟩] 23 (0, 0))) := Lib.hid (by rw [← hW2]; exact alloc_at rfl)
          have HE2 := Lib.hid (hW2 ▸ HE1.out.alloc _ : W2.ownsRow _ _ _ _ _ _)
          rw [hW2]
          clear hW2
          refine pcall rfl rfl (fun K hK => ?_)
          refine wp_app (.tmp 22) (.tmp 24) valE rfl N [] rfl HE2.out rfl xs (HXS.out.below (B2.out.mono (by omega))) HXO.out (by unfold maxLen; omega) (by omega) hz2 ?_
          intro A1 c1 W3 o3 g3
          simp only [Nat.zero_add, List.nil_append] at o3
          have B3 : Hid (Below N Wz W3) := Lib.hid (below_app B2.out HE2.out g3 hz2)
          have hz3 : N ≤ W3.heap.size := Nat.le_trans HN.out B3.out.size
          have HA3 := Lib.hid o3
          refine hK.out _ _ (KB.of_two B2.out B3.out hbs) ?_
          clear hK K o3
          try simp only [Act.put, List.setIfInBounds_toArray, List.set_cons_zero, List.set_cons_succ]
          try simp only [Nat.zero_add]
          have HO3 := Lib.hid (box_grown HO2.out g3 (fun j hj => by simp [Value.ownBlock] at hj; omega))
          refine pcall rfl rfl (fun K hK => ?_)
          refine wp_app (.tmp 25) (.tmp 27) valE rfl N _ rfl HA3.out rfl [.int .i64 v.k, .int .i64 v.n, .string ⟨v.s.toArray⟩] (rd_heap HO3.out rfl) (by intro u hu; simp at hu; rcases hu with rfl | rfl | rfl <;> rfl) (by unfold maxLen; omega) (by omega) hz3 ?_
          intro A2 c2 W4 o4 g4
          have B4 : Hid (Below N Wz W4) := Lib.hid (below_app B3.out HA3.out g4 hz3)
          have hz4 : N ≤ W4.heap.size := Nat.le_trans HN.out B4.out.size
          have HA4 := Lib.hid o4
          refine hK.out _ _ (KB.of_two B3.out B4.out hbs) ?_
          clear hK K o4 g4
          try simp only [Act.put, List.setIfInBounds_toArray, List.set_cons_zero, List.set_cons_succ]
          repeat (first | (refine sreadxP rfl rfl ?_; apply Exists.intro; apply And.intro; (· (intro W hW; first | (go_simp; done) | (go_simp; with_reducible rfl) | (go_simp; rw [if_neg (by omega)]; done) | (go_simp; rw [if_neg (by omega)]; with_reducible rfl))); simp only [Act.put, List.setIfInBounds_toArray, List.set_cons_zero, List.set_cons_succ]) | (refine pskip rfl rfl ?_; simp only [Act.put, List.setIfInBounds_toArray, List.set_cons_zero, List.set_cons_succ]))
          have hbx : W4.heap[w4.heap.size]? = some (.cells #[.int .i64 r.inst, .int .i64 r.proc, .int .i64 r.piece, .int .i64 r.fin, .slice s.a.A s.a.n s.a.c, .slice s.e.A s.e.n s.e.c, .slice s.l.A s.l.n s.l.c, .slice s.c.A s.c.n s.c.c] 37 (0, 0)) := by rw [B4.out.block _ (by omega)]; exact ZB.out.1
          have hbc : W4.cell? ⟨w4.heap.size, 5, none⟩ = some (.slice s.e.A s.e.n s.e.c) := by rw [Lib.cell_of_heap hbx]; rfl
          have hbf : W4.frozen? ⟨w4.heap.size, 5, none⟩ = false := Lib.frozen_of_heap hbx 5
          refine pcall rfl rfl (fun K hK => ?_)
          go_simp
          refine hK.out _ _ (fun b hb => Below.heap_setCell _ _ _ _ (hbn b hb)) ?_
          clear hK K hbc hbf
          try simp only [Act.put, List.setIfInBounds_toArray, List.set_cons_zero, List.set_cons_succ]
          refine pdone ?_
          go_wp2_with fail
          go_meet
          have BW : Below w4.heap.size Wz (W4.setCell ⟨w4.heap.size, 5, none⟩ (.slice A2 (s.e.n + 1) c2)) := Below.setCell (B := w4.heap.size) (p := ⟨w4.heap.size, 5, none⟩) (B4.out.mono (show w4.heap.size ≤ N by omega)) (Nat.le_refl _) _
          have BX := Z.out.below BW h3
          have hne : (Value.slice A2 (s.e.n + 1) c2).ownBlock ≠ some w4.heap.size := fun e => by have := (HA4.out.lt _ e).1; omega
          have BZ := HBZ.out.trans BW
          refine ⟨BX, ⟨S, HC.out.next BZ, RC.out.next BZ⟩, ⟨A2, s.e.n + 1, c2⟩, ⟨_, Rd.of_own (own_set HA4.out _ hne), HXR.out.append (.one ⟨rfl, HV.out⟩), (own_capG HA4.out).1, (own_capG HA4.out).2⟩, ⟨?_, BX.r.2⟩⟩
          have := heap_set (i := 5) hbx (.slice A2 (s.e.n + 1) c2)
          exact this
      · intro K hK
        go_simp
        refine hK.out _ _ (KB.of_two B0.out (B0.out.alloc hz0 _) hbs) ?_
        clear hK K
        try simp only [Act.put, List.setIfInBounds_toArray, List.set_cons_zero, List.set_cons_succ]
        obtain ⟨W1, hW1⟩ : ∃ W1, W0.alloc (.cells #[.int .i64 v.k, .int .i64 v.n, .string ⟨v.s.toArray⟩] 23) = W1 := ⟨_, rfl⟩
        have B1 : Hid (Below N Wz W1) := Lib.hid (by rw [← hW1]; exact B0.out.alloc hz0 _)
        have hz1 : N ≤ W1.heap.size := Nat.le_trans HN.out B1.out.size
        have he1 : W0.heap.size + 1 ≤ W1.heap.size ∧ W1.heap.size ≤ W0.heap.size + 1 := by rw [← hW1]; simp
        have HO1 : Hid (W1.heap[W0.heap.size]? = some (.cells #[.int .i64 v.k, .int .i64 v.n, .string ⟨v.s.toArray⟩] 23 (0, 0))) := Lib.hid (by rw [← hW1]; exact alloc_at rfl)
        rw [hW1]
        clear hW1
        refine pcall rfl rfl (fun K hK => ?_)
        go_simp
        refine hK.out _ _ (KB.of_two B1.out (B1.out.alloc hz1 _) hbs) ?_
        clear hK K
        try simp only [Act.put, List.setIfInBounds_toArray, List.set_cons_zero, List.set_cons_succ]
        obtain ⟨W2, hW2⟩ : ∃ W2, W1.alloc (.cells #[] 23) = W2 := ⟨_, rfl⟩
        have B2 : Hid (Below N Wz W2) := Lib.hid (by rw [← hW2]; exact B1.out.alloc hz1 _)
        have hz2 : N ≤ W2.heap.size := Nat.le_trans HN.out B2.out.size
        have he2 : W1.heap.size + 1 ≤ W2.heap.size ∧ W2.heap.size ≤ W1.heap.size + 1 := by rw [← hW2]; simp
        have HE2 : Hid (W2.ownsRow N 23 3 (.slice (some ⟨W1.heap.size, 0, none⟩) 0 0) 0 []) := Lib.hid (by rw [← hW2]; exact own_e W1 rfl hz1)
        have HO2 := Lib.hid (hW2 ▸ alloc_old' HO1.out : W2.heap[_]? = _)
        rw [hW2]
        clear hW2
        refine pcall rfl rfl (fun K hK => ?_)
        refine wp_app (.tmp 22) (.tmp 24) valE rfl N [] rfl HE2.out rfl xs (HXS.out.below (B2.out.mono (by omega))) HXO.out (by unfold maxLen; omega) (by omega) hz2 ?_
        intro A1 c1 W3 o3 g3
        simp only [Nat.zero_add, List.nil_append] at o3
        have B3 : Hid (Below N Wz W3) := Lib.hid (below_app B2.out HE2.out g3 hz2)
        have hz3 : N ≤ W3.heap.size := Nat.le_trans HN.out B3.out.size
        have HA3 := Lib.hid o3
        refine hK.out _ _ (KB.of_two B2.out B3.out hbs) ?_
        clear hK K o3
        try simp only [Act.put, List.setIfInBounds_toArray, List.set_cons_zero, List.set_cons_succ]
        try simp only [Nat.zero_add]
        have HO3 := Lib.hid (box_grown HO2.out g3 (fun j hj => by simp [Value.ownBlock] at hj; omega))
        refine pcall rfl rfl (fun K hK => ?_)
        refine wp_app (.tmp 25) (.tmp 27) valE rfl N _ rfl HA3.out rfl [.int .i64 v.k, .int .i64 v.n, .string ⟨v.s.toArray⟩] (rd_heap HO3.out rfl) (by intro u hu; simp at hu; rcases hu with rfl | rfl | rfl <;> rfl) (by unfold maxLen; omega) (by omega) hz3 ?_
        intro A2 c2 W4 o4 g4
        have B4 : Hid (Below N Wz W4) := Lib.hid (below_app B3.out HA3.out g4 hz3)
        have hz4 : N ≤ W4.heap.size := Nat.le_trans HN.out B4.out.size
        have HA4 := Lib.hid o4
        refine hK.out _ _ (KB.of_two B3.out B4.out hbs) ?_
        clear hK K o4 g4
        try simp only [Act.put, List.setIfInBounds_toArray, List.set_cons_zero, List.set_cons_succ]
        repeat (first | (refine sreadxP rfl rfl ?_; apply Exists.intro; apply And.intro; (· (intro W hW; first | (go_simp; done) | (go_simp; with_reducible rfl) | (go_simp; rw [if_neg (by omega)]; done) | (go_simp; rw [if_neg (by omega)]; with_reducible rfl))); simp only [Act.put, List.setIfInBounds_toArray, List.set_cons_zero, List.set_cons_succ]) | (refine pskip rfl rfl ?_; simp only [Act.put, List.setIfInBounds_toArray, List.set_cons_zero, List.set_cons_succ]))
        have hbx : W4.heap[w4.heap.size]? = some (.cells #[.int .i64 r.inst, .int .i64 r.proc, .int .i64 r.piece, .int .i64 r.fin, .slice s.a.A s.a.n s.a.c, .slice s.e.A s.e.n s.e.c, .slice s.l.A s.l.n s.l.c, .slice s.c.A s.c.n s.c.c] 37 (0, 0)) := by rw [B4.out.block _ (by omega)]; exact ZB.out.1
        have hbc : W4.cell? ⟨w4.heap.size, 5, none⟩ = some (.slice s.e.A s.e.n s.e.c) := by rw [Lib.cell_of_heap hbx]; rfl
        have hbf : W4.frozen? ⟨w4.heap.size, 5, none⟩ = false := Lib.frozen_of_heap hbx 5
        refine pcall rfl rfl (fun K hK => ?_)
        go_simp
        refine hK.out _ _ (fun b hb => Below.heap_setCell _ _ _ _ (hbn b hb)) ?_
        clear hK K hbc hbf
        try simp only [Act.put, List.setIfInBounds_toArray, List.set_cons_zero, List.set_cons_succ]
        refine pdone ?_
        go_wp2_with fail
        go_meet
        have BW : Below w4.heap.size Wz (W4.setCell ⟨w4.heap.size, 5, none⟩ (.slice A2 (s.e.n + 1) c2)) := Below.setCell (B := w4.heap.size) (p := ⟨w4.heap.size, 5, none⟩) (B4.out.mono (show w4.heap.size ≤ N by omega)) (Nat.le_refl _) _
        have BX := Z.out.below BW h3
        have hne : (Value.slice A2 (s.e.n + 1) c2).ownBlock ≠ some w4.heap.size := fun e => by have := (HA4.out.lt _ e).1; omega
        have BZ := HBZ.out.trans BW
        refine ⟨BX, ⟨S, HC.out.next BZ, RC.out.next BZ⟩, ⟨A2, s.e.n + 1, c2⟩, ⟨_, Rd.of_own (own_set HA4.out _ hne), HXR.out.append (.one ⟨rfl, HV.out⟩), (own_capG HA4.out).1, (own_capG HA4.out).2⟩, ⟨?_, BX.r.2⟩⟩
        have := heap_set (i := 5) hbx (.slice A2 (s.e.n + 1) c2)
        exact this
    case rest =>
      obtain ⟨BX, ⟨S2, hrow, hbox⟩, S3, hrow3, hbox3⟩ := hcut
      obtain ⟨w5, hw5⟩ : ∃ w5, w5 = wc := ⟨_, rfl⟩
      subst hw5
      clear X4 HC RC
      have HA : Hid (RecAt w5 (withC r x) { s with c := S2 }) := Lib.hid ⟨(HR.out.next BX.r.2).a, (HR.out.next BX.r.2).e, (HR.out.next BX.r.2).l, hrow⟩
      have HB : Hid (RecAt w5 (withE r v) { s with e := S3 }) := Lib.hid ⟨(HR.out.next BX.r.2).a, hrow3, (HR.out.next BX.r.2).l, (HR.out.next BX.r.2).c⟩
      obtain ⟨g4, hg4⟩ : ∃ g4, w4.heap.size = g4 := ⟨_, rfl⟩
      rw [hg4] at hbox3
      try rw [hg4]
      have X0 := Lib.hid (RY.mk BX hbox hbox3)
      clear BX hbox hbox3 hrow hrow3 hg4 h3
      have B0 : Hid (Below w5.heap.size w5 w5) := Lib.hid (Below.refl _ _)
      obtain ⟨⟨⟨x0, x1⟩, x2, x3⟩, ⟨x4, x5⟩, x6, x7⟩ := X0.out.a.r.cells
      obtain ⟨⟨⟨y0, y1⟩, y2, y3⟩, ⟨y4, y5⟩, y6, y7⟩ := X0.out.y.cells
      obtain ⟨⟨⟨z0, z1⟩, z2, z3⟩, ⟨z4, z5⟩, z6, z7⟩ := X0.out.z.cells
      simp only [withC] at y0 y1 y2 y3 y4 y5 y6 y7
      simp only [withE] at z0 z1 z2 z3 z4 z5 z6 z7
      go_wp2_with fail
      refine (lightRec_any (withC r x) { s with c := S2 } _ HA.out).mono ?_; rintro e w6 ⟨rfl, b6⟩
      clear x0 x1 x2 x3 x4 x5 x6 x7 y0 y1 y2 y3 y4 y5 y6 y7 z0 z1 z2 z3 z4 z5 z6 z7
      have X1 := Lib.hid (X0.out.next b6)
      have B1 := Lib.hid (bthen B0.out b6)
      clear X0 B0 b6
      cases q1 : lightRec (withC r x)
      · go_wp2_with fail
        refine (livesR_any _).mono ?_; rintro e wL ⟨rfl, bL⟩
        go_wp2_with fail
        go_ret
        exact ⟨rfl, (X1.out.next bL).a.r.2⟩
      obtain ⟨⟨⟨x0, x1⟩, x2, x3⟩, ⟨x4, x5⟩, x6, x7⟩ := X1.out.a.r.cells
      obtain ⟨⟨⟨y0, y1⟩, y2, y3⟩, ⟨y4, y5⟩, y6, y7⟩ := X1.out.y.cells
      obtain ⟨⟨⟨z0, z1⟩, z2, z3⟩, ⟨z4, z5⟩, z6, z7⟩ := X1.out.z.cells
      simp only [withC] at y0 y1 y2 y3 y4 y5 y6 y7
      simp only [withE] at z0 z1 z2 z3 z4 z5 z6 z7
      go_wp2_with fail
      refine (lightRec_any (withE r v) { s with e := S3 } _ (HB.out.next B1.out)).mono ?_; rintro e w7 ⟨rfl, b7⟩
      clear x0 x1 x2 x3 x4 x5 x6 x7 y0 y1 y2 y3 y4 y5 y6 y7 z0 z1 z2 z3 z4 z5 z6 z7
      have X2 := Lib.hid (X1.out.next b7)
      have B2 := Lib.hid (bthen B1.out b7)
      clear X1 B1 b7
      cases q2 : lightRec (withE r v)
      · go_wp2_with fail
        refine (livesR_any _).mono ?_; rintro e wL ⟨rfl, bL⟩
        go_wp2_with fail
        go_ret
        exact ⟨rfl, (X2.out.next bL).a.r.2⟩
      obtain ⟨⟨⟨x0, x1⟩, x2, x3⟩, ⟨x4, x5⟩, x6, x7⟩ := X2.out.a.r.cells
      obtain ⟨⟨⟨y0, y1⟩, y2, y3⟩, ⟨y4, y5⟩, y6, y7⟩ := X2.out.y.cells
      obtain ⟨⟨⟨z0, z1⟩, z2, z3⟩, ⟨z4, z5⟩, z6, z7⟩ := X2.out.z.cells
      simp only [withC] at y0 y1 y2 y3 y4 y5 y6 y7
      simp only [withE] at z0 z1 z2 z3 z4 z5 z6 z7
      go_wp2_with fail
      refine (rightRec_any (withC r x) { s with c := S2 } _ (HA.out.next B2.out) (light_short q1)).mono ?_; rintro e w8 ⟨rfl, b8⟩
      clear x0 x1 x2 x3 x4 x5 x6 x7 y0 y1 y2 y3 y4 y5 y6 y7 z0 z1 z2 z3 z4 z5 z6 z7
      have X3 := Lib.hid (X2.out.next b8)
      have B3 := Lib.hid (bthen B2.out b8)
      clear X2 B2 b8
      cases q3 : rightRec (withC r x)
      · go_wp2_with fail
        refine (livesR_any _).mono ?_; rintro e wL ⟨rfl, bL⟩
        go_wp2_with fail
        go_ret
        exact ⟨rfl, (X3.out.next bL).a.r.2⟩
      obtain ⟨⟨⟨x0, x1⟩, x2, x3⟩, ⟨x4, x5⟩, x6, x7⟩ := X3.out.a.r.cells
      obtain ⟨⟨⟨y0, y1⟩, y2, y3⟩, ⟨y4, y5⟩, y6, y7⟩ := X3.out.y.cells
      obtain ⟨⟨⟨z0, z1⟩, z2, z3⟩, ⟨z4, z5⟩, z6, z7⟩ := X3.out.z.cells
      simp only [withC] at y0 y1 y2 y3 y4 y5 y6 y7
      simp only [withE] at z0 z1 z2 z3 z4 z5 z6 z7
      go_wp2_with fail
      refine (rightRec_any (withE r v) { s with e := S3 } _ (HB.out.next B3.out) (light_short q2)).mono ?_; rintro e w9 ⟨rfl, b9⟩
      clear x0 x1 x2 x3 x4 x5 x6 x7 y0 y1 y2 y3 y4 y5 y6 y7 z0 z1 z2 z3 z4 z5 z6 z7
      have X4 := Lib.hid (X3.out.next b9)
      have B4 := Lib.hid (bthen B3.out b9)
      clear X3 B3 b9
      cases q4 : rightRec (withE r v)
      · go_wp2_with fail
        refine (livesR_any _).mono ?_; rintro e wL ⟨rfl, bL⟩
        go_wp2_with fail
        go_ret
        exact ⟨rfl, (X4.out.next bL).a.r.2⟩
      have OKC := Lib.hid (rok HA.out q1 q3)
      have OKE := Lib.hid (rok HB.out q2 q4)
      have OKR := Lib.hid (rok HR.out (light_of q1) (right_of q3))
      have hlc := rowCL_more r.changes x OKR.out.c.1
      have hle := rowL_more r.emits v (lightR_all OKR.out.e).1
      have hC : (putRec r).length < (putRec (withC r x)).length := by simp only [putRec, withC, List.length_append]; omega
      have hE : (putRec r).length < (putRec (withE r v)).length := by simp only [putRec, withE, List.length_append]; omega
      have hnC := Lib.hid (same_no (show r ≠ withC r x from fun e => by have := congrArg (fun q => q.changes.length) e; simp [withC] at this))
      have hnE := Lib.hid (same_no (show r ≠ withE r v from fun e => by have := congrArg (fun q => q.emits.length) e; simp [withE] at this))
      have HCl := Lib.hid hC
      have HEl := Lib.hid hE
      clear hlc hle hC hE q1 q2 q3 q4
      obtain ⟨⟨⟨x0, x1⟩, x2, x3⟩, ⟨x4, x5⟩, x6, x7⟩ := X4.out.a.r.cells
      obtain ⟨⟨⟨y0, y1⟩, y2, y3⟩, ⟨y4, y5⟩, y6, y7⟩ := X4.out.y.cells
      obtain ⟨⟨⟨z0, z1⟩, z2, z3⟩, ⟨z4, z5⟩, z6, z7⟩ := X4.out.z.cells
      simp only [withC] at y0 y1 y2 y3 y4 y5 y6 y7
      simp only [withE] at z0 z1 z2 z3 z4 z5 z6 z7
      go_wp2_with fail
      clear x0 x1 x2 x3 x4 x5 x6 x7 y0 y1 y2 y3 y4 y5 y6 y7 z0 z1 z2 z3 z4 z5 z6 z7
      refine wp_region_sched [(0, true), (2, true), (4, true), (1, false), (3, false), (5, false), (6, true), (7, true), (8, true)] (by kernel_rfl) (by kernel_rfl) (fun _ _ d _ _ h => by cases d <;> exact h) ?_
      refine sbelow (w0 := w9) ((Below.refl _ _).drew) (fun B0 => ?_)
      refine swith (fun W hW => ((X4.out.next (bthen B0 hW.out)).a.r.cells)) (fun qx => ?_)
      refine swith (fun W hW => ((X4.out.next (bthen B0 hW.out)).y.cells)) (fun qy => ?_)
      refine swith (fun W hW => ((X4.out.next (bthen B0 hW.out)).z.cells)) (fun qz => ?_)
      simp only [withC, withE] at qy qz
      repeat (first | (refine sreadx rfl rfl ?_; apply Exists.intro; apply And.intro; (· (intro W hW; first | (go_simp; done) | (go_simp; with_reducible rfl) | (go_simp; rw [if_neg (by omega)]; done) | (go_simp; rw [if_neg (by omega)]; with_reducible rfl))); simp only [Act.put, List.setIfInBounds_toArray, List.set_cons_zero, List.set_cons_succ]) | (refine sskip rfl rfl ?_; simp only [Act.put, List.setIfInBounds_toArray, List.set_cons_zero, List.set_cons_succ]))
      refine scall rfl rfl (fun K hK => ?_)
      go_simp
      refine (putRec_any r s _ (HR.out.next (X4.out.next B0).a.r.2) OKR.out).mono ?_; rintro e v1 ⟨A1, n1, c1, rfl, o1, b1⟩
      go_wp2_with fail
      refine hK.out _ _ (by exact b1) ?_
      clear hK K
      try simp only [Act.put, List.setIfInBounds_toArray, List.set_cons_zero, List.set_cons_succ]
      replace qx := fun (W : World) (hW : Grow v1 W) => qx W (Grow.trans (b1) hW)
      replace qy := fun (W : World) (hW : Grow v1 W) => qy W (Grow.trans (b1) hW)
      replace qz := fun (W : World) (hW : Grow v1 W) => qz W (Grow.trans (b1) hW)
      have B1' := bthen B0 b1
      repeat (first | (refine sreadx rfl rfl ?_; apply Exists.intro; apply And.intro; (· (intro W hW; first | (go_simp; done) | (go_simp; with_reducible rfl) | (go_simp; rw [if_neg (by omega)]; done) | (go_simp; rw [if_neg (by omega)]; with_reducible rfl))); simp only [Act.put, List.setIfInBounds_toArray, List.set_cons_zero, List.set_cons_succ]) | (refine sskip rfl rfl ?_; simp only [Act.put, List.setIfInBounds_toArray, List.set_cons_zero, List.set_cons_succ]))
      refine scall rfl rfl (fun K hK => ?_)
      go_simp
      refine (putRec_any (withC r x) { s with c := S2 } _ (HA.out.next (bthen B4.out B1')) OKC.out).mono ?_; rintro e v2 ⟨A2, n2, c2, rfl, o2, b2⟩
      go_wp2_with fail
      refine hK.out _ _ (by exact b2) ?_
      clear hK K
      try simp only [Act.put, List.setIfInBounds_toArray, List.set_cons_zero, List.set_cons_succ]
      replace qx := fun (W : World) (hW : Grow v2 W) => qx W (Grow.trans (b2) hW)
      replace qy := fun (W : World) (hW : Grow v2 W) => qy W (Grow.trans (b2) hW)
      replace qz := fun (W : World) (hW : Grow v2 W) => qz W (Grow.trans (b2) hW)
      have B2' := bthen B1' b2
      repeat (first | (refine sreadx rfl rfl ?_; apply Exists.intro; apply And.intro; (· (intro W hW; first | (go_simp; done) | (go_simp; with_reducible rfl) | (go_simp; rw [if_neg (by omega)]; done) | (go_simp; rw [if_neg (by omega)]; with_reducible rfl))); simp only [Act.put, List.setIfInBounds_toArray, List.set_cons_zero, List.set_cons_succ]) | (refine sskip rfl rfl ?_; simp only [Act.put, List.setIfInBounds_toArray, List.set_cons_zero, List.set_cons_succ]))
      refine scall rfl rfl (fun K hK => ?_)
      go_simp
      refine (putRec_any (withE r v) { s with e := S3 } _ (HB.out.next (bthen B4.out B2')) OKE.out).mono ?_; rintro e v3 ⟨A3, n3, c3, rfl, o3, b3⟩
      go_wp2_with fail
      refine hK.out _ _ (by exact b3) ?_
      clear hK K
      try simp only [Act.put, List.setIfInBounds_toArray, List.set_cons_zero, List.set_cons_succ]
      have B3' := bthen B2' b3
      repeat (first | (refine sreadx rfl rfl ?_; apply Exists.intro; apply And.intro; (· (intro W hW; first | (go_simp; done) | (go_simp; with_reducible rfl) | (go_simp; rw [if_neg (by omega)]; done) | (go_simp; rw [if_neg (by omega)]; with_reducible rfl))); simp only [Act.put, List.setIfInBounds_toArray, List.set_cons_zero, List.set_cons_succ]) | (refine sskip rfl rfl ?_; simp only [Act.put, List.setIfInBounds_toArray, List.set_cons_zero, List.set_cons_succ]))
      refine sdone ?_
      have hn1 := own_len o1
      have hn2 := own_len o2
      have hn3 := own_len o3
      have h12 : n1 < n2 := by have := HCl.out; omega
      have h13 : n1 < n3 := by have := HEl.out; omega
      have d1 : decide ((n2 : Int) > (n1 : Int)) = true := by simp; omega
      have d2 : decide ((n3 : Int) > (n1 : Int)) = true := by simp; omega
      have d3 : decide (n1 < n2) = true := by simp; omega
      have d4 : decide (n1 < n3) = true := by simp; omega
      have X5 := Lib.hid (X4.out.next B3')
      have B5 := Lib.hid (bthen B4.out B3')
      clear hn1 hn2 hn3 h12 h13 qx qy qz B0 B1' B2' B3' b1 b2 b3 o1 o2 o3 X4 B4
      obtain ⟨⟨⟨x0, x1⟩, x2, x3⟩, ⟨x4, x5⟩, x6, x7⟩ := X5.out.a.r.cells
      obtain ⟨⟨⟨y0, y1⟩, y2, y3⟩, ⟨y4, y5⟩, y6, y7⟩ := X5.out.y.cells
      obtain ⟨⟨⟨z0, z1⟩, z2, z3⟩, ⟨z4, z5⟩, z6, z7⟩ := X5.out.z.cells
      simp only [withC] at y0 y1 y2 y3 y4 y5 y6 y7
      simp only [withE] at z0 z1 z2 z3 z4 z5 z6 z7
      go_wp2_with fail
      refine (sameRec_any r (withC r x) s { s with c := S2 } _ (HR.out.next X5.out.a.r.2) (HA.out.next B5.out)).mono ?_; rintro e v4 ⟨rfl, b4⟩
      rw [hnC.out]
      clear x0 x1 x2 x3 x4 x5 x6 x7 y0 y1 y2 y3 y4 y5 y6 y7 z0 z1 z2 z3 z4 z5 z6 z7
      have X6 := Lib.hid (X5.out.next b4)
      have B6 := Lib.hid (bthen B5.out b4)
      clear X5 B5 b4
      obtain ⟨⟨⟨x0, x1⟩, x2, x3⟩, ⟨x4, x5⟩, x6, x7⟩ := X6.out.a.r.cells
      obtain ⟨⟨⟨y0, y1⟩, y2, y3⟩, ⟨y4, y5⟩, y6, y7⟩ := X6.out.y.cells
      obtain ⟨⟨⟨z0, z1⟩, z2, z3⟩, ⟨z4, z5⟩, z6, z7⟩ := X6.out.z.cells
      simp only [withC] at y0 y1 y2 y3 y4 y5 y6 y7
      simp only [withE] at z0 z1 z2 z3 z4 z5 z6 z7
      go_wp2_with fail
      refine (sameRec_any r (withE r v) s { s with e := S3 } _ (HR.out.next X6.out.a.r.2) (HB.out.next B6.out)).mono ?_; rintro e v5 ⟨rfl, b5⟩
      rw [hnE.out]
      clear x0 x1 x2 x3 x4 x5 x6 x7 y0 y1 y2 y3 y4 y5 y6 y7 z0 z1 z2 z3 z4 z5 z6 z7
      have X7 := Lib.hid (X6.out.next b5)
      have B7 := Lib.hid (bthen B6.out b5)
      clear X6 B6 b5
      go_wp2_with fail
      refine (livesR_any _).mono ?_; rintro e wL ⟨rfl, bL⟩
      go_wp2_with fail
      go_ret
      exact ⟨rfl, (X7.out.next bL).a.r.2⟩
end Go.Proofs.Ytpkoijlbbfffiaa.recordRows
