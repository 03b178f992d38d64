/- The contracts of record's reader at rows of changes. -/
/- The contracts of record.Get's closures, of record.read at them, and of record.Get, at bytes that record.Put has put. -/
/- The contracts of record.read at record.Get's closure, and of record.Get, at bytes that record.Put has put. -/
import Derived.Test.YtpkoijlbbfffiaaRecGet
import Derived.Defers
import Derived.Recover
namespace Go.Proofs.Ytpkoijlbbfffiaa.R
open Go.RowKit O V

theorem chgE : Elem Try.prog 35 42 4 48 (.agg #[.int .i64 0, .int .i64 0, .bool false, .slice none 0 0]) := by
  obtain ⟨i, hi, h1, h2, h3⟩ := info_parts (show (Try.prog.info? 42).map (fun i => (i.zero, i.size, i.bytes)) = some (some (.agg #[.int .i64 0, .int .i64 0, .bool false, .slice none 0 0]), 4, 48) by kernel_rfl)
  exact ⟨Try.underlying35, i, hi, h1, h2, h3, rfl, by omega⟩
/-- Two own rows of elements of two types lie in two blocks. -/
theorem own_apart {w : World} {b b' e e' size size' n n' : Nat} {v v' : Value} {xs ys : List Value} (h : w.ownsRow b e size v n xs) (h' : w.ownsRow b' e' size' v' n' ys) (hne : e ≠ e') : v.ownBlock = none ∨ v.ownBlock ≠ v'.ownBlock := by
  rcases h.2 with ⟨rfl, _⟩ | ⟨g, cap, cur, rfl, _, hg, _⟩
  · exact .inl rfl
  · rcases h'.2 with ⟨rfl, _⟩ | ⟨g', cap', cur', rfl, _, hg', _⟩
    · exact .inr (by simp [Value.ownBlock])
    · refine .inr (fun e => ?_)
      simp [Value.ownBlock] at e
      subst e
      rw [hg] at hg'
      injection hg' with hg'
      injection hg' with _ hg'
      exact hne hg'
def ChO (w : World) (B : Nat) (x : Chg) (cs : List Value) : Prop := ∃ s : Sl, cs = [.int .i64 x.table, .int .i64 x.key, .bool x.gone, .slice s.A s.n s.c] ∧ OwnV w B s x.row
theorem ChO.size {w : World} {B : Nat} : ∀ (a : Chg) vs, ChO w B a vs → vs.length = 4 := by rintro a vs ⟨s, rfl, _⟩; rfl
theorem ChO.grown {w w' : World} {B g : Nat} {l : List Chg} {xs : List Value} (h : Reps (ChO w B) l xs) (hg : w.grownBy w' (some g)) (hb : g < B) : Reps (ChO w' B) l xs := h.imp (fun a vs ⟨s, e, o⟩ => ⟨s, e, o.grown hg hb⟩)
theorem ChO.below {w w' : World} {B : Nat} {l : List Chg} {xs : List Value} (h : Reps (ChO w B) l xs) (hg : Below w.heap.size w w') : Reps (ChO w' B) l xs := h.imp (fun a vs ⟨s, e, o⟩ => ⟨s, e, o.below hg⟩)
theorem ChO.beside {w w' : World} {B b size n : Nat} {v : Value} {ys : List Value} {l : List Chg} {xs : List Value} (h : Reps (ChO w B) l xs) (ho : w.ownsRow b 42 size v n ys) (hg : w.grownBy w' v.ownBlock) : Reps (ChO w' B) l xs :=
  h.imp (fun a vs ⟨s, e, zs, o1, o2⟩ => ⟨s, e, zs, o1.kept hg (own_apart o1 ho (by decide)), o2⟩)
theorem ChO.more {w : World} {B B' : Nat} {l : List Chg} {xs : List Value} (h : Reps (ChO w B) l xs) (hb : B' ≤ B) : Reps (ChO w B') l xs := h.imp (fun a vs ⟨s, e, o⟩ => ⟨s, e, o.more hb⟩)
theorem uintL_pos' (a : Nat) : 0 < (uintL a).length := by
  by_cases h : a < 128
  · rw [uintL_lt h]; simp
  · rw [uintL_ge (by omega)]; simp
def RetH (g : Nat) (A : Option Addr) (n c : Nat) (l : List UInt8) (k : Nat) (a : List Chg) (w : World) (e : Ending) (w' : World) : Prop :=
  ∃ (A' : Option Addr) (n' c' : Nat) (xs : List Value), e = .returned (.slice A' n' c') ∧ w'.ownsRow w.heap.size 42 4 (.slice A' n' c') n' xs ∧ Reps (ChO w' w.heap.size) a xs ∧ Rdr w' g A n c l k ∧ w.grownBy w' (some g)
theorem putChgs_ge : ∀ (a : List Chg), a.length ≤ (putChgs a).length
  | [] => by simp [putChgs]
  | x :: a => by
    have h1 := putChgs_ge a
    have h2 : 0 < (chgL x).length := by
      have := uintL_pos' x.table.toNat
      unfold chgL
      simp
      omega
    unfold putChgs at h1 ⊢
    rw [List.flatMap_cons, List.length_append, List.length_cons]
    omega
theorem chgs_split {a : List Chg} {k : Nat} (h : k < a.length) (pre rest : List UInt8) : pre ++ (putChgs a ++ rest) = (pre ++ putChgs (a.take k)) ++ (chgL a[k] ++ (putChgs (a.drop (k + 1)) ++ rest)) := by
  have e : putChgs a = putChgs (a.take k) ++ (chgL a[k] ++ putChgs (a.drop (k + 1))) := by
    conv => lhs; rw [← List.take_append_drop k a, List.drop_eq_getElem_cons h]
    unfold putChgs
    rw [List.flatMap_append, List.flatMap_cons]
  rw [e]
  simp [List.append_assoc]
set_option maxHeartbeats 2000000 in
set_option maxRecDepth 100000 in
theorem rrowsC_any (g : Nat) (A : Option Addr) (n c : Nat) (pre rest : List UInt8) (a : List Chg) (w : World) (h : Rdr w g A n c (pre ++ (putChgs a ++ rest)) pre.length) (ha : ∀ x ∈ a, COk2 x) (h20 : a.length ≤ 20) :
    Calls Try.prog 116 #[.pointer (some ⟨g, 0, none⟩), .int .i64 (a.length : Int), .func (.func 117) #[.pointer (some ⟨g, 0, none⟩)] #[]] w
      (RetH g A n c (pre ++ (putChgs a ++ rest)) (pre.length + (putChgs a).length) a w) := by
  have hg := h.lt
  have hl := h.len
  have hcap := h.cap
  have hn := h.n
  have hge := putChgs_ge a
  have hkn : pre.length + a.length ≤ n := by rw [← hl]; simp only [List.length_append]; omega
  have HR := Lib.hid h
  have HA := Lib.hid ha
  have hsp := fun k hk => chgs_split (a := a) (k := k) hk pre rest
  have HSP := Lib.hid hsp
  clear h hl ha hge hsp
  obtain ⟨m, hm⟩ : ∃ m, a.length = m := ⟨_, rfl⟩
  rw [hm] at h20 hkn ⊢
  have HM := Lib.hid hm
  clear hm
  generalize hL : pre ++ (putChgs a ++ rest) = L at *
  clear hL
  obtain ⟨p, hp⟩ : ∃ p, pre.length = p := ⟨_, rfl⟩
  rw [hp] at HR hkn ⊢
  have HP := Lib.hid hp
  clear hp
  have d0 : (m : Int) ≤ (n : Int) - (p : Int) := by omega
  have d1 : decide ((m : Int) ≤ (n : Int) - (p : Int)) = true := by simp; omega
  have hwr : IntKind.i64.wrap ((n : Int) - (p : Int)) = (n : Int) - (p : Int) := IntWalk.i64_in _ (by omega)
  go_enter Try.func116, Try.ntmps116
  go_wp2_with fail
  refine wp_region_sched [(0, true), (1, true), (2, true), (3, true), (4, true), (5, true), (6, true), (7, true), (8, true), (9, true), (10, true), (11, true), (12, false)] (by kernel_rfl) (by kernel_rfl) (fun _ _ d _ _ h => by cases d <;> exact h) ?_
  refine swith (fun W hW => (HR.out.next ((Below.refl _ _).drew.trans (hW.out.mono (Nat.le_refl _)))).cells) (fun q => ?_)
  repeat (first | (refine sreadx rfl rfl ?_; apply Exists.intro; apply And.intro; (· (intro W hW; first | (go_simp; done) | (go_simp; with_reducible rfl) | (go_simp; rw [if_neg (by omega)]; done) | (go_simp; rw [if_neg (by omega)]; with_reducible rfl))); simp only [Act.put, List.setIfInBounds_toArray, List.set_cons_zero, List.set_cons_succ]) | (refine sskip rfl rfl ?_; simp only [Act.put, List.setIfInBounds_toArray, List.set_cons_zero, List.set_cons_succ]))
  refine scall rfl rfl (fun K hK => ?_)
  go_simp
  refine (must_yes _).mono ?_; rintro e w2 ⟨rfl, rfl⟩
  go_wp2_with fail
  refine hK.out _ _ (by exact Grow.refl _) ?_
  clear hK K
  try simp only [Act.put, List.setIfInBounds_toArray, List.set_cons_zero, List.set_cons_succ]
  repeat (first | (refine sreadx rfl rfl ?_; apply Exists.intro; apply And.intro; (· (intro W hW; first | (go_simp; done) | (go_simp; with_reducible rfl) | (go_simp; rw [if_neg (by omega)]; done) | (go_simp; rw [if_neg (by omega)]; with_reducible rfl))); simp only [Act.put, List.setIfInBounds_toArray, List.set_cons_zero, List.set_cons_succ]) | (refine sskip rfl rfl ?_; simp only [Act.put, List.setIfInBounds_toArray, List.set_cons_zero, List.set_cons_succ]))
  refine sdone ?_
  clear q hwr
  have R1 := Lib.hid (HR.out.next (Below.refl _ _).drew)
  have G1 : Hid (w.grownBy w.drew (some g)) := Lib.hid (gb_below (Below.refl _ _).drew _)
  go_wp2_with fail
  go_loopw [6, 21] (fun v i wr => ∃ (k : Nat) (A1 : Option Addr) (n1 c1 : Nat) (xs : List Value), k ≤ m ∧ i = .int .i64 k ∧ v = .slice A1 n1 c1 ∧ wr.ownsRow w.heap.size 42 4 (.slice A1 n1 c1) n1 xs ∧ Hid (Reps (ChO wr w.heap.size) (a.take k) xs) ∧ Rdr wr g A n c L (p + (putChgs (a.take k)).length) ∧ w.grownBy wr (some g)) (fun _ i _ => m - (intOf i).toNat)
  case atStart => exact ⟨0, none, 0, 0, [], by omega, rfl, rfl, World.ownsRow_nil _ _ _ _, Lib.hid (by simp [Reps]), by simpa [putChgs] using R1.out, G1.out⟩
  case round =>
    obtain ⟨k, A1, n1, c1, xs, hk, rfl, rfl, ho, hrp, hR, hG⟩ := hrel
    clear R1 G1
    have hn1 : n1 = k := by
      have e1 := ho.1
      have e2 := hrp.out.length ChO.size
      have e3 := HM.out
      simp at e2
      omega
    subst hn1
    have HO := Lib.hid ho
    have HG := Lib.hid hG
    have hbs := hG.size
    by_cases hlt : n1 < m
    · have hlt' : n1 < a.length := by rw [HM.out]; exact hlt
      have e1 := HSP.out n1 hlt'
      have ex := HA.out a[n1] (List.getElem_mem hlt')
      have hst := Lib.hid (putChgs_step hlt')
      have htk := Lib.hid (List.take_succ_eq_append_getElem hlt')
      have hR' : Rdr wr g A n c ((pre ++ putChgs (a.take n1)) ++ (chgL a[n1] ++ (putChgs (a.drop (n1 + 1)) ++ rest))) (pre ++ putChgs (a.take n1)).length := by
        rw [← e1, List.length_append, HP.out]; exact hR
      have hq := rchange_any g A n c _ _ a[n1] _ hR' ex
      rw [← e1, List.length_append, HP.out] at hq
      have HQ := Lib.hid hq
      clear e1 ex hR' hq ho hG hR
      generalize a[n1] = x at *
      go_wp2_with fail
      refine HQ.out.mono ?_; rintro e w2 ⟨s, rfl, o2, r2, g2⟩
      have HO2 := Lib.hid (own_keep HO.out g2 hg)
      have HG2 := Lib.hid (gb_trans HG.out g2)
      have R2 := Lib.hid r2
      have HS := Lib.hid (o2.more hbs)
      have hrp2 := Lib.hid (ChO.grown hrp.out g2 hg)
      have hbs2 := Nat.le_trans hbs g2.size
      clear r2 g2 o2 HQ HO HG hrp
      simp only [cgv]
      go_wp2_with (at_builtin; refine wpList_app rfl (.tmp 23) (.tmp 26) chgE rfl w.heap.size xs rfl (HO2.out.alloc _) rfl [.int .i64 x.table, .int .i64 x.key, .bool x.gone, .slice s.A s.n s.c] (Rd.made _ [.int .i64 x.table, .int .i64 x.key, .bool x.gone, .slice s.A s.n s.c] rfl rfl) (by simp [Value.oneCell']) (by unfold maxLen; omega) (by omega) (by simp; omega) ?_; intro A3 c3 w3 o3 g3 _)
      have hoa := HO2.out.alloc (.cells #[.int .i64 x.table, .int .i64 x.key, .bool x.gone, .slice s.A s.n s.c] 42)
      have hown := fun j hj => (hoa.lt j hj).1
      have R3 := (R2.out.next ((Below.refl _ _).alloc (Nat.le_refl _) _)).grown g3 (fun j hj => Nat.lt_of_lt_of_le hg (hown j hj))
      have G3 := gb_own (gb_trans HG2.out (gb_below ((Below.refl _ _).alloc (Nat.le_refl _) _) _)) g3 hown
      have hrp3 := ChO.beside (ChO.below hrp2.out ((Below.refl _ _).alloc (Nat.le_refl _) (.cells #[.int .i64 x.table, .int .i64 x.key, .bool x.gone, .slice s.A s.n s.c] 42))) hoa g3
      have hone : Reps (ChO _ w.heap.size) [x] [.int .i64 x.table, .int .i64 x.key, .bool x.gone, .slice s.A s.n s.c] := .one ⟨s, rfl, HS.out⟩
      have hone3 := ChO.beside (ChO.below hone ((Below.refl _ _).alloc (Nat.le_refl _) (.cells #[.int .i64 x.table, .int .i64 x.key, .bool x.gone, .slice s.A s.n s.c] 42))) hoa g3
      go_roundw
      case rel => exact ⟨n1 + 1, A3, n1 + 1, c3, _, by omega, by go_num, rfl, o3, Lib.hid (by rw [htk.out]; exact hrp3.append hone3), by rw [hst.out, List.length_append, ← Nat.add_assoc]; exact R3, G3⟩
      case measure => simp [intOf]; omega
    · obtain rfl : n1 = m := by omega
      go_wp2_with fail
      go_ret
      have e1 : a.take n1 = a := by rw [← HM.out, List.take_length]
      rw [e1] at hrp hR
      exact ⟨A1, n1, c1, xs, rfl, ho, hrp.out, hR, hG⟩
end Go.Proofs.Ytpkoijlbbfffiaa.R
namespace Go.Proofs.Ytpkoijlbbfffiaa.R
open Go.RowKit O V

/-- Nothing but the blocks g and x has turned. -/
structure Two (g x : Nat) (w w' : World) : Prop where
  os : w'.os = w.os
  tape : w'.tape = w.tape
  output : w'.output = w.output
  size : w.heap.size ≤ w'.heap.size
  block : ∀ k, k < w.heap.size → k ≠ g → k ≠ x → w'.heap[k]? = w.heap[k]?
theorem Two.of_gb {g x : Nat} {w w' : World} (h : w.grownBy w' (some g)) : Two g x w w' := ⟨h.os, h.tape, h.output, h.size, fun k hk hg _ => h.block k hk (fun e => hg (by injection e))⟩
theorem Two.trans {g x : Nat} {a b c : World} (h : Two g x a b) (k : Two g x b c) : Two g x a c := ⟨k.os.trans h.os, k.tape.trans h.tape, k.output.trans h.output, Nat.le_trans h.size k.size, fun i hi h1 h2 => (k.block i (Nat.lt_of_lt_of_le hi h.size) h1 h2).trans (h.block i hi h1 h2)⟩
theorem Two.gb {g x : Nat} {a b c : World} (h : Two g x a b) (k : b.grownBy c (some g)) : Two g x a c := h.trans (.of_gb k)
theorem Two.set {g x : Nat} {a b : World} (h : Two g x a b) (i : Nat) (v : Value) : Two g x a (b.setCell ⟨x, i, none⟩ v) := ⟨h.os, h.tape, h.output, by simpa using h.size, fun k hk h1 h2 => (Below.heap_setCell _ _ _ _ (by simpa using h2)).trans (h.block k hk h1 h2)⟩
theorem Rdr.at_x {w : World} {g x i : Nat} {A : Option Addr} {n c : Nat} {l : List UInt8} {k : Nat} (h : Rdr w g A n c l k) (hr : Rd w x 1 A n (bv l)) (hx : x < g) (v : Value) : Rdr (w.setCell ⟨x, i, none⟩ v) g A n c l k :=
  ⟨by rw [Below.heap_setCell _ _ _ _ (by simp only; omega)]; exact h.box, (hr.setCell (Nat.le_refl _) v).more (Nat.le_of_lt hx), h.cap, h.n⟩
section
variable {g : Nat} {A : Option Addr} {n c : Nat} {L : List UInt8}
theorem num_step (P rest : List UInt8) (u : Int) (h0 : 0 ≤ u) (h1 : u ≤ 1073741824) (e : L = P ++ (uintL u.toNat ++ rest)) (W : World) (h : Rdr W g A n c L P.length) :
    Calls Try.prog 114 #[.pointer (some ⟨g, 0, none⟩)] W (RetR g A n c L (P ++ uintL u.toNat).length (.int .i64 u) W) := by
  subst e
  have := rnumber_any g A n c P rest u.toNat W h (by omega)
  rwa [Int.toNat_of_nonneg h0, ← List.length_append] at this
theorem vals_step (P rest : List UInt8) (a : List Val) (ha : ∀ x ∈ a, badV x = false ∧ VOk x) (h20 : a.length ≤ 20) (e : L = P ++ (rowL a ++ rest)) (W : World) (h : Rdr W g A n c L P.length) :
    Calls Try.prog 115 #[.pointer (some ⟨g, 0, none⟩)] W (RetV g A n c L (P ++ rowL a).length a W) := by
  subst e
  have := rvalues_any g A n c P rest a W h ha h20
  rwa [← List.length_append] at this
theorem chgs_step (P rest : List UInt8) (a : List Chg) (ha : ∀ x ∈ a, COk2 x) (h20 : a.length ≤ 20) (e : L = P ++ (putChgs a ++ rest)) (W : World) (h : Rdr W g A n c L P.length) :
    Calls Try.prog 116 #[.pointer (some ⟨g, 0, none⟩), .int .i64 (a.length : Int), .func (.func 117) #[.pointer (some ⟨g, 0, none⟩)] #[]] W (RetH g A n c L (P ++ putChgs a).length a W) := by
  subst e
  have := rrowsC_any g A n c P rest a W h ha h20
  rwa [← List.length_append] at this
end
theorem OwnV.mk {w : World} {B n c : Nat} {A : Option Addr} {xs : List Value} {a : List Val} (h : w.ownsRow B 23 3 (.slice A n c) n xs) (hr : Reps ValC a xs) : OwnV w B ⟨A, n, c⟩ a := ⟨xs, h, hr⟩
def OwnH (w : World) (B : Nat) (s : Sl) (a : List Chg) : Prop := ∃ xs, w.ownsRow B 42 4 (.slice s.A s.n s.c) s.n xs ∧ Reps (ChO w B) a xs
theorem ChO.set {w : World} {B b i : Nat} {l : List Chg} {xs : List Value} (h : Reps (ChO w B) l xs) (hb : b < B) (v : Value) : Reps (ChO (w.setCell ⟨b, i, none⟩ v) B) l xs := h.imp (fun a vs ⟨s, e, o⟩ => ⟨s, e, o.set hb v⟩)
theorem OwnH.set {w : World} {B b i : Nat} {s : Sl} {a : List Chg} (h : OwnH w B s a) (hb : b < B) (v : Value) : OwnH (w.setCell ⟨b, i, none⟩ v) B s a := by
  obtain ⟨xs, h1, h2⟩ := h
  exact ⟨xs, own_set h1 v (fun e => by have := (h1.lt _ e).1; omega), ChO.set h2 hb v⟩
theorem OwnH.below {w w' : World} {B : Nat} {s : Sl} {a : List Chg} (h : OwnH w B s a) (hb : Below w.heap.size w w') : OwnH w' B s a := by
  obtain ⟨xs, h1, h2⟩ := h
  exact ⟨xs, own_below h1 hb, ChO.below h2 hb⟩
theorem OwnH.more {w : World} {B B' : Nat} {s : Sl} {a : List Chg} (h : OwnH w B s a) (hb : B' ≤ B) : OwnH w B' s a := by
  obtain ⟨xs, h1, h2⟩ := h
  exact ⟨xs, own_more h1 hb, ChO.more h2 hb⟩
theorem OwnH.row {w : World} {B : Nat} {s : Sl} {a : List Chg} (h : OwnH w B s a) (hk : ∀ x ∈ a, COk2 x) : HRow w s.A s.n s.c a := by
  obtain ⟨xs, h1, h2⟩ := h
  refine ⟨xs, Rd.of_own h1, ?_, (own_capG h1).1, (own_capG h1).2⟩
  have : ∀ (l : List Chg) (ys : List Value), (∀ x ∈ l, COk2 x) → Reps (ChO w B) l ys → Reps (ChC w) l ys := by
    intro l
    induction l with
    | nil => intro ys _ h; exact h
    | cons x l ih =>
      rintro ys hl ⟨vs, zs, e, ⟨s, e2, o⟩, k⟩
      have hx := hl x (by simp)
      exact ⟨vs, zs, e, ⟨s, e2, o.row, ⟨by have := hx.t0; omega, by have := hx.t1; omega⟩, hx.k1, hx.k2⟩, ih _ (fun y hy => hl y (by simp [hy])) k⟩
  exact this a xs hk h2
/-- What is known of a record that is read back. -/
structure ROk2 (r : Rec) : Prop where
  n : ((0 ≤ r.inst ∧ r.inst ≤ 1073741824) ∧ 0 ≤ r.proc ∧ r.proc ≤ 1073741824) ∧ (0 ≤ r.piece ∧ r.piece ≤ 1073741824) ∧ 0 ≤ r.fin ∧ r.fin ≤ 1073741824
  a : (∀ v ∈ r.args, badV v = false ∧ VOk v) ∧ r.args.length ≤ 20
  e : (∀ v ∈ r.emits, badV v = false ∧ VOk v) ∧ r.emits.length ≤ 20
  l : (∀ v ∈ r.locals, badV v = false ∧ VOk v) ∧ r.locals.length ≤ 20
  c : (∀ x ∈ r.changes, COk2 x) ∧ r.changes.length ≤ 20
/-- The record r reads so, its rows lie anew. -/
structure RecOwn (w : World) (B : Nat) (r : Rec) (s : RS) : Prop where
  a : OwnV w B s.a r.args
  e : OwnV w B s.e r.emits
  l : OwnV w B s.l r.locals
  c : OwnH w B s.c r.changes
def zeroRec : Rec := ⟨0, 0, 0, 0, [], [], [], []⟩
theorem cells8 {W : World} {g : Nat} {x0 x1 x2 x3 x4 x5 x6 x7 : Value} {T : TypeId} (h : W.heap[g]? = some (.cells #[x0, x1, x2, x3, x4, x5, x6, x7] T (0, 0))) :
    ((W.cell? ⟨g, 0, none⟩ = some x0 ∧ W.cell? ⟨g, 1, none⟩ = some x1) ∧ (W.cell? ⟨g, 2, none⟩ = some x2 ∧ W.cell? ⟨g, 3, none⟩ = some x3)) ∧
    ((W.cell? ⟨g, 4, none⟩ = some x4 ∧ W.cell? ⟨g, 5, none⟩ = some x5) ∧ (W.cell? ⟨g, 6, none⟩ = some x6 ∧ W.cell? ⟨g, 7, none⟩ = some x7)) := by
  refine ⟨⟨⟨?_, ?_⟩, ?_, ?_⟩, ⟨?_, ?_⟩, ?_, ?_⟩ <;> (rw [Lib.cell_of_heap h]; rfl)
theorem frozen8 {W : World} {g : Nat} {cs : Array Value} {T : TypeId} (h : W.heap[g]? = some (.cells cs T (0, 0))) :
    ((W.frozen? ⟨g, 0, none⟩ = false ∧ W.frozen? ⟨g, 1, none⟩ = false) ∧ (W.frozen? ⟨g, 2, none⟩ = false ∧ W.frozen? ⟨g, 3, none⟩ = false)) ∧
    ((W.frozen? ⟨g, 4, none⟩ = false ∧ W.frozen? ⟨g, 5, none⟩ = false) ∧ (W.frozen? ⟨g, 6, none⟩ = false ∧ W.frozen? ⟨g, 7, none⟩ = false)) :=
  ⟨⟨⟨Lib.frozen_of_heap h 0, Lib.frozen_of_heap h 1⟩, Lib.frozen_of_heap h 2, Lib.frozen_of_heap h 3⟩, ⟨Lib.frozen_of_heap h 4, Lib.frozen_of_heap h 5⟩, Lib.frozen_of_heap h 6, Lib.frozen_of_heap h 7⟩
theorem box_gn {w w' : World} {h g : Nat} {o : Obj} (hb : w.heap[h]? = some o) (hg : w.grownBy w' (some g)) (hne : h ≠ g) : w'.heap[h]? = some o := by
  rw [hg.block h (Array.getElem?_eq_some_iff.1 hb).1 (fun e => by injection e with e; omega)]
  exact hb
theorem rd_gb {w w' : World} {x g : Nat} {A : Option Addr} {n : Nat} {xs : List Value} (h : Rd w x 1 A n xs) (hg : w.grownBy w' (some g)) (hx : x < g) (hl : g < w.heap.size) : Rd w' x 1 A n xs :=
  h.below ((gb_to_below hg (Nat.le_of_lt hl)).mono (Nat.le_of_lt hx))
def seg (r : Rec) : Nat → List UInt8
  | 0 => uintL r.inst.toNat
  | 1 => uintL r.proc.toNat
  | 2 => uintL r.piece.toNat
  | 3 => uintL r.fin.toNat
  | 4 => rowL r.args
  | 5 => rowL r.emits
  | 6 => rowL r.locals
  | 7 => uintL ((r.changes.length : Int)).toNat
  | 8 => putChgs r.changes
  | _ => []
def hd (r : Rec) : Nat → List UInt8
  | 0 => []
  | k + 1 => hd r k ++ seg r k
def tl (r : Rec) (k : Nat) : List UInt8 := (List.range' k (9 - k)).flatMap (seg r)
theorem cut_rec (r : Rec) (k : Nat) (h : k < 9) : putRec r = hd r k ++ (seg r k ++ tl r (k + 1)) := by
  rcases (show k = 0 ∨ k = 1 ∨ k = 2 ∨ k = 3 ∨ k = 4 ∨ k = 5 ∨ k = 6 ∨ k = 7 ∨ k = 8 by omega) with h | h | h | h | h | h | h | h | h <;> subst h <;> simp [putRec, rowCL, hd, seg, tl, List.range', List.append_assoc]
set_option maxHeartbeats 4000000 in
set_option maxRecDepth 100000 in
theorem get1_any (g x : Nat) (A : Option Addr) (n c : Nat) (r : Rec) (w : World) (h : Rdr w g A n c (putRec r) 0) (hrd : Rd w x 1 A n (bv (putRec r))) (hx : x < g) (ok : ROk2 r)
    (hbx : w.heap[x]? = some (.cells #[.int .i64 0, .int .i64 0, .int .i64 0, .int .i64 0, .slice none 0 0, .slice none 0 0, .slice none 0 0, .slice none 0 0] 37 (0, 0))) :
    Calls Try.prog 113 #[.pointer (some ⟨g, 0, none⟩), .pointer (some ⟨x, 0, none⟩)] w fun e w' => e = .returned (.tuple #[]) ∧
      ∃ s : RS, w'.heap[x]? = some (.cells #[.int .i64 r.inst, .int .i64 r.proc, .int .i64 r.piece, .int .i64 r.fin, .slice s.a.A s.a.n s.a.c, .slice s.e.A s.e.n s.e.c, .slice s.l.A s.l.n s.l.c, .slice s.c.A s.c.n s.c.c] 37 (0, 0)) ∧
        RecOwn w' w.heap.size r s ∧ Rdr w' g A n c (putRec r) (putRec r).length ∧ Two g x w w' := by
  have hg := h.lt
  have OK := Lib.hid ok
  have R0 := Lib.hid h
  have D0 := Lib.hid hrd
  have X0 := Lib.hid hbx
  have T0 : Hid (Two g x w w) := Lib.hid ⟨rfl, rfl, rfl, Nat.le_refl _, fun _ _ _ _ => rfl⟩
  clear h hrd ok hbx
  go_enter Try.func113, Try.ntmps113
  go_wp2_with fail
  have QQ := num_step (g := g) (A := A) (n := n) (c := c) (hd r 0) (tl r (0 + 1)) r.inst OK.out.n.1.1.1 OK.out.n.1.1.2 (cut_rec r 0 (by omega)) _ R0.out
  refine QQ.mono ?_; rintro e w1 ⟨rfl, r1, g1⟩
  have X1 := Lib.hid (box_gn X0.out g1 (Nat.ne_of_lt hx))
  have D1 := Lib.hid (rd_gb D0.out g1 hx R0.out.lt)
  have T1 := Lib.hid (T0.out.gb g1)
  have R1 := Lib.hid r1
  clear QQ X0 D0 T0 R0
  go_wp2_with fail
  have QQ := num_step (g := g) (A := A) (n := n) (c := c) (hd r 1) (tl r (1 + 1)) r.proc OK.out.n.1.2.1 OK.out.n.1.2.2 (cut_rec r 1 (by omega)) _ R1.out
  refine QQ.mono ?_; rintro e w2 ⟨rfl, r2, g2⟩
  have X2 := Lib.hid (box_gn X1.out g2 (Nat.ne_of_lt hx))
  have D2 := Lib.hid (rd_gb D1.out g2 hx R1.out.lt)
  have T2 := Lib.hid (T1.out.gb g2)
  have R2 := Lib.hid r2
  clear QQ X1 D1 T1 R1
  go_wp2_with fail
  have QQ := num_step (g := g) (A := A) (n := n) (c := c) (hd r 2) (tl r (2 + 1)) r.piece OK.out.n.2.1.1 OK.out.n.2.1.2 (cut_rec r 2 (by omega)) _ R2.out
  refine QQ.mono ?_; rintro e w3 ⟨rfl, r3, g3⟩
  have X3 := Lib.hid (box_gn X2.out g3 (Nat.ne_of_lt hx))
  have D3 := Lib.hid (rd_gb D2.out g3 hx R2.out.lt)
  have T3 := Lib.hid (T2.out.gb g3)
  have R3 := Lib.hid r3
  clear QQ X2 D2 T2 R2
  go_wp2_with fail
  have QQ := num_step (g := g) (A := A) (n := n) (c := c) (hd r 3) (tl r (3 + 1)) r.fin OK.out.n.2.2.1 OK.out.n.2.2.2 (cut_rec r 3 (by omega)) _ R3.out
  refine QQ.mono ?_; rintro e w4 ⟨rfl, r4, g4⟩
  have X4 := Lib.hid (box_gn X3.out g4 (Nat.ne_of_lt hx))
  have D4 := Lib.hid (rd_gb D3.out g4 hx R3.out.lt)
  have T4 := Lib.hid (T3.out.gb g4)
  have R4 := Lib.hid r4
  clear QQ X3 D3 T3 R3
  obtain ⟨⟨⟨y0, y1⟩, y2, y3⟩, ⟨y4, y5⟩, y6, y7⟩ := cells8 X4.out
  obtain ⟨⟨⟨z0, z1⟩, z2, z3⟩, ⟨z4, z5⟩, z6, z7⟩ := frozen8 X4.out
  go_wp2_with fail
  clear y0 y1 y2 y3 y4 y5 y6 y7 z0 z1 z2 z3 z4 z5 z6 z7
  have X5 : Hid (((((w4.setCell ⟨x, 0, none⟩ (.int .i64 r.inst)).setCell ⟨x, 1, none⟩ (.int .i64 r.proc)).setCell ⟨x, 2, none⟩ (.int .i64 r.piece)).setCell ⟨x, 3, none⟩ (.int .i64 r.fin)).heap[x]? = some (.cells #[.int .i64 r.inst, .int .i64 r.proc, .int .i64 r.piece, .int .i64 r.fin, .slice none 0 0, .slice none 0 0, .slice none 0 0, .slice none 0 0] 37 (0, 0))) := Lib.hid (by
    have := heap_set (i := 3) (heap_set (i := 2) (heap_set (i := 1) (heap_set (i := 0) X4.out (.int .i64 r.inst)) (.int .i64 r.proc)) (.int .i64 r.piece)) (.int .i64 r.fin)
    exact this)
  have D5 := Lib.hid ((((D4.out.setCell (p := ⟨x, 0, none⟩) (Nat.le_refl x) (.int .i64 r.inst)).setCell (p := ⟨x, 1, none⟩) (Nat.le_refl x) (.int .i64 r.proc)).setCell (p := ⟨x, 2, none⟩) (Nat.le_refl x) (.int .i64 r.piece)).setCell (p := ⟨x, 3, none⟩) (Nat.le_refl x) (.int .i64 r.fin))
  have R5 : Hid (Rdr ((((w4.setCell ⟨x, 0, none⟩ (.int .i64 r.inst)).setCell ⟨x, 1, none⟩ (.int .i64 r.proc)).setCell ⟨x, 2, none⟩ (.int .i64 r.piece)).setCell ⟨x, 3, none⟩ (.int .i64 r.fin)) g A n c (putRec r) (hd r 4).length) := Lib.hid (((((R4.out.at_x (i := 0) D4.out hx (.int .i64 r.inst)).at_x (i := 1) (D4.out.setCell (p := ⟨x, 0, none⟩) (Nat.le_refl x) _) hx (.int .i64 r.proc)).at_x (i := 2) ((D4.out.setCell (p := ⟨x, 0, none⟩) (Nat.le_refl x) _).setCell (p := ⟨x, 1, none⟩) (Nat.le_refl x) _) hx (.int .i64 r.piece)).at_x (i := 3) (((D4.out.setCell (p := ⟨x, 0, none⟩) (Nat.le_refl x) _).setCell (p := ⟨x, 1, none⟩) (Nat.le_refl x) _).setCell (p := ⟨x, 2, none⟩) (Nat.le_refl x) _) hx (.int .i64 r.fin)))
  have T5 := Lib.hid ((((T4.out.set 0 (.int .i64 r.inst)).set 1 (.int .i64 r.proc)).set 2 (.int .i64 r.piece)).set 3 (.int .i64 r.fin))
  obtain ⟨w5, hw5⟩ : ∃ w5, (((w4.setCell ⟨x, 0, none⟩ (.int .i64 r.inst)).setCell ⟨x, 1, none⟩ (.int .i64 r.proc)).setCell ⟨x, 2, none⟩ (.int .i64 r.piece)).setCell ⟨x, 3, none⟩ (.int .i64 r.fin) = w5 := ⟨_, rfl⟩
  rw [hw5] at X5 D5 R5 T5 ⊢
  clear hw5 X4 D4 R4 T4
  have QQ := vals_step (g := g) (A := A) (n := n) (c := c) (hd r 4) (tl r (4 + 1)) r.args OK.out.a.1 OK.out.a.2 (cut_rec r 4 (by omega)) _ R5.out
  refine QQ.mono ?_; rintro e w6 ⟨A6, n6, c6, xs6, rfl, o6, p6, r6, g6⟩
  have X6 := Lib.hid (box_gn X5.out g6 (Nat.ne_of_lt hx))
  have D6 := Lib.hid (rd_gb D5.out g6 hx R5.out.lt)
  have T6 := Lib.hid (T5.out.gb g6)
  have R6 := Lib.hid r6
  have O6 := Lib.hid ((OwnV.mk o6 p6).more T5.out.size)
  clear QQ X5 D5 T5 R5 o6 p6
  go_wp2_with fail
  have QQ := vals_step (g := g) (A := A) (n := n) (c := c) (hd r 5) (tl r (5 + 1)) r.emits OK.out.e.1 OK.out.e.2 (cut_rec r 5 (by omega)) _ R6.out
  refine QQ.mono ?_; rintro e w7 ⟨A7, n7, c7, xs7, rfl, o7, p7, r7, g7⟩
  have X7 := Lib.hid (box_gn X6.out g7 (Nat.ne_of_lt hx))
  have D7 := Lib.hid (rd_gb D6.out g7 hx R6.out.lt)
  have T7 := Lib.hid (T6.out.gb g7)
  have R7 := Lib.hid r7
  have O7 := Lib.hid ((OwnV.mk o7 p7).more T6.out.size)
  clear QQ X6 D6 T6 R6 o7 p7
  have O6 := Lib.hid (O6.out.grown g7 hg)
  go_wp2_with fail
  have QQ := vals_step (g := g) (A := A) (n := n) (c := c) (hd r 6) (tl r (6 + 1)) r.locals OK.out.l.1 OK.out.l.2 (cut_rec r 6 (by omega)) _ R7.out
  refine QQ.mono ?_; rintro e w8 ⟨A8, n8, c8, xs8, rfl, o8, p8, r8, g8⟩
  have X8 := Lib.hid (box_gn X7.out g8 (Nat.ne_of_lt hx))
  have D8 := Lib.hid (rd_gb D7.out g8 hx R7.out.lt)
  have T8 := Lib.hid (T7.out.gb g8)
  have R8 := Lib.hid r8
  have O8 := Lib.hid ((OwnV.mk o8 p8).more T7.out.size)
  clear QQ X7 D7 T7 R7 o8 p8
  have O6 := Lib.hid (O6.out.grown g8 hg)
  have O7 := Lib.hid (O7.out.grown g8 hg)
  obtain ⟨⟨⟨y0, y1⟩, y2, y3⟩, ⟨y4, y5⟩, y6, y7⟩ := cells8 X8.out
  obtain ⟨⟨⟨z0, z1⟩, z2, z3⟩, ⟨z4, z5⟩, z6, z7⟩ := frozen8 X8.out
  go_wp2_with fail
  clear y0 y1 y2 y3 y4 y5 y6 y7 z0 z1 z2 z3 z4 z5 z6 z7
  have hxw : x < w.heap.size := Nat.lt_trans hx hg
  have X9 : Hid ((((w8.setCell ⟨x, 4, none⟩ (.slice A6 n6 c6)).setCell ⟨x, 5, none⟩ (.slice A7 n7 c7)).setCell ⟨x, 6, none⟩ (.slice A8 n8 c8)).heap[x]? = some (.cells #[.int .i64 r.inst, .int .i64 r.proc, .int .i64 r.piece, .int .i64 r.fin, .slice A6 n6 c6, .slice A7 n7 c7, .slice A8 n8 c8, .slice none 0 0] 37 (0, 0))) := Lib.hid (by
    have := heap_set (i := 6) (heap_set (i := 5) (heap_set (i := 4) X8.out (.slice A6 n6 c6)) (.slice A7 n7 c7)) (.slice A8 n8 c8)
    exact this)
  have D9 := Lib.hid (((D8.out.setCell (p := ⟨x, 4, none⟩) (Nat.le_refl x) (.slice A6 n6 c6)).setCell (p := ⟨x, 5, none⟩) (Nat.le_refl x) (.slice A7 n7 c7)).setCell (p := ⟨x, 6, none⟩) (Nat.le_refl x) (.slice A8 n8 c8))
  have R9 : Hid (Rdr (((w8.setCell ⟨x, 4, none⟩ (.slice A6 n6 c6)).setCell ⟨x, 5, none⟩ (.slice A7 n7 c7)).setCell ⟨x, 6, none⟩ (.slice A8 n8 c8)) g A n c (putRec r) (hd r 7).length) := Lib.hid (((R8.out.at_x (i := 4) D8.out hx (.slice A6 n6 c6)).at_x (i := 5) (D8.out.setCell (p := ⟨x, 4, none⟩) (Nat.le_refl x) _) hx (.slice A7 n7 c7)).at_x (i := 6) ((D8.out.setCell (p := ⟨x, 4, none⟩) (Nat.le_refl x) _).setCell (p := ⟨x, 5, none⟩) (Nat.le_refl x) _) hx (.slice A8 n8 c8))
  have T9 := Lib.hid (((T8.out.set 4 (.slice A6 n6 c6)).set 5 (.slice A7 n7 c7)).set 6 (.slice A8 n8 c8))
  have U6 := Lib.hid (((O6.out.set (i := 4) hxw (.slice A6 n6 c6)).set (i := 5) hxw (.slice A7 n7 c7)).set (i := 6) hxw (.slice A8 n8 c8))
  have U7 := Lib.hid (((O7.out.set (i := 4) hxw (.slice A6 n6 c6)).set (i := 5) hxw (.slice A7 n7 c7)).set (i := 6) hxw (.slice A8 n8 c8))
  have U8 := Lib.hid (((O8.out.set (i := 4) hxw (.slice A6 n6 c6)).set (i := 5) hxw (.slice A7 n7 c7)).set (i := 6) hxw (.slice A8 n8 c8))
  obtain ⟨w9, hw9⟩ : ∃ w9, ((w8.setCell ⟨x, 4, none⟩ (.slice A6 n6 c6)).setCell ⟨x, 5, none⟩ (.slice A7 n7 c7)).setCell ⟨x, 6, none⟩ (.slice A8 n8 c8) = w9 := ⟨_, rfl⟩
  rw [hw9] at X9 D9 R9 T9 U6 U7 U8 ⊢
  clear hw9 X8 D8 R8 T8 O6 O7 O8
  have hcl : ((r.changes.length : Int)) ≤ 1073741824 := by have := OK.out.c.2; omega
  have QQ := num_step (g := g) (A := A) (n := n) (c := c) (hd r 7) (tl r (7 + 1)) (r.changes.length : Int) (by omega) hcl (cut_rec r 7 (by omega)) _ R9.out
  refine QQ.mono ?_; rintro e w10 ⟨rfl, r10, g10⟩
  have X10 := Lib.hid (box_gn X9.out g10 (Nat.ne_of_lt hx))
  have D10 := Lib.hid (rd_gb D9.out g10 hx R9.out.lt)
  have T10 := Lib.hid (T9.out.gb g10)
  have R10 := Lib.hid r10
  clear QQ X9 D9 T9 R9
  have V6 := Lib.hid (U6.out.grown g10 hg)
  have V7 := Lib.hid (U7.out.grown g10 hg)
  have V8 := Lib.hid (U8.out.grown g10 hg)
  clear U6 U7 U8
  go_wp2_with fail
  have QQ := chgs_step (g := g) (A := A) (n := n) (c := c) (hd r 8) (tl r 9) r.changes OK.out.c.1 OK.out.c.2 (cut_rec r 8 (by omega)) _ R10.out
  refine QQ.mono ?_; rintro e w11 ⟨A11, n11, c11, xs11, rfl, o11, p11, r11, g11⟩
  have X11 := Lib.hid (box_gn X10.out g11 (Nat.ne_of_lt hx))
  have D11 := Lib.hid (rd_gb D10.out g11 hx R10.out.lt)
  have T11 := Lib.hid (T10.out.gb g11)
  have R11 := Lib.hid r11
  have O11 : Hid (OwnH w11 w.heap.size ⟨A11, n11, c11⟩ r.changes) := Lib.hid (OwnH.more ⟨xs11, o11, p11⟩ T10.out.size)
  have W6 := Lib.hid (V6.out.grown g11 hg)
  have W7 := Lib.hid (V7.out.grown g11 hg)
  have W8 := Lib.hid (V8.out.grown g11 hg)
  clear QQ X10 D10 T10 R10 o11 p11 V6 V7 V8
  obtain ⟨⟨⟨y0, y1⟩, y2, y3⟩, ⟨y4, y5⟩, y6, y7⟩ := cells8 X11.out
  obtain ⟨⟨⟨z0, z1⟩, z2, z3⟩, ⟨z4, z5⟩, z6, z7⟩ := frozen8 X11.out
  go_wp2_with fail
  clear y0 y1 y2 y3 y4 y5 y6 y7 z0 z1 z2 z3 z4 z5 z6 z7
  go_end0
  refine ⟨rfl, ⟨⟨A6, n6, c6⟩, ⟨A7, n7, c7⟩, ⟨A8, n8, c8⟩, ⟨A11, n11, c11⟩⟩, ?_, ⟨W6.out.set hxw _, W7.out.set hxw _, W8.out.set hxw _, O11.out.set hxw _⟩, ?_, T11.out.set _ _⟩
  · have := heap_set (i := 7) X11.out (.slice A11 n11 c11)
    exact this
  · have e : (putRec r).length = (hd r 8 ++ putChgs r.changes).length := by
      conv => lhs; rw [cut_rec r 8 (by omega)]
      simp [seg, tl, List.range']
    rw [e]
    exact R11.out.at_x D11.out hx _
end Go.Proofs.Ytpkoijlbbfffiaa.R
namespace Go.Proofs.Ytpkoijlbbfffiaa.R
open Go.RowKit O V

theorem read1_idle (p : Addr) (w : World) :
    CallsD Try.prog 146 #[.pointer (some p)] .returning w fun e u' w' => e = .returned (.tuple #[]) ∧ u' = .returning ∧ w' = w := by
  refine callsD_of_wpS Try.func146 rfl fun c₀ cs hu => ?_
  apply wpS_seq
  apply wpS_region
  simp [wpOpsS, go_sem, recoverD, hu, Try.ntmps146, Exit.thenS]
  refine wpS_of_wp ?_
  have e : (#[Value.pointer (some p)] ++ (Array.replicate 9 undef).setIfInBounds 3 Value.nilIface) = #[Value.pointer (some p), undef, undef, undef, Value.nilIface, undef, undef, undef, undef, undef] := by simp [Array.replicate]
  rw [e]
  go_wp2_with fail
  cases c₀
  simp_all [bodyPostS, results, Try.results146]
def RetG (x : Nat) (r : Rec) (w : World) (e : Ending) (w' : World) : Prop := e = .returned (.bool true) ∧ ∃ s : RS,
  w'.heap[x]? = some (.cells #[.int .i64 r.inst, .int .i64 r.proc, .int .i64 r.piece, .int .i64 r.fin, .slice s.a.A s.a.n s.a.c, .slice s.e.A s.e.n s.e.c, .slice s.l.A s.l.n s.l.c, .slice s.c.A s.c.n s.c.c] 37 (0, 0)) ∧ RecOwn w' w.heap.size r s ∧ w.grownBy w' (some x)
set_option maxHeartbeats 1000000 in
set_option maxRecDepth 100000 in
theorem read_any (x : Nat) (A : Option Addr) (n c : Nat) (r : Rec) (w : World) (hrd : Rd w x 1 A n (bv (putRec r))) (hn : n ≤ 1000000000000) (hcap : n ≤ c ∧ c ≤ 9223372036854775807) (ok : ROk2 r)
    (hbx : w.heap[x]? = some (.cells #[.int .i64 0, .int .i64 0, .int .i64 0, .int .i64 0, .slice none 0 0, .slice none 0 0, .slice none 0 0, .slice none 0 0] 37 (0, 0))) :
    Calls Try.prog 112 #[.slice A n c, .func (.func 113) #[] #[.pointer (some ⟨x, 0, none⟩)]] w (RetG x r w) := by
  have hmf : ∀ (fn : Fn) (first cap : Array Value) (w : World), (Instr.makeFunc fn first cap).run Try.prog w = .ok (.func fn first cap) w := fun _ _ _ _ => rfl
  have hl : (putRec r).length = n := by have := hrd.1; simp at this; omega
  have hx := (Array.getElem?_eq_some_iff.1 hbx).1
  have HL := Lib.hid hl
  have D0 := Lib.hid hrd
  have X0 := Lib.hid hbx
  have OK := Lib.hid ok
  clear hl hrd hbx ok
  go_enter_defers Try.func112, Try.ntmps112
  go_wp2_with fail
  have B1 : Below w.heap.size w ((w.alloc (.cells #[.bool false] 4)).alloc (.cells #[.slice A n c, .int .i64 0] 152)) := by repeat (first | exact Below.refl _ _ | refine Below.alloc ?_ (by simp <;> omega) _)
  have HB1 := Lib.hid B1
  have R1 : Hid (Rdr ((w.alloc (.cells #[.bool false] 4)).alloc (.cells #[.slice A n c, .int .i64 0] 152)) (w.heap.size + 1) A n c (putRec r) 0) := Lib.hid ⟨alloc_at (by simp), (D0.out.below (B1.mono (Nat.le_of_lt hx))).more (by omega), hcap, hn⟩
  have D1 : Hid (Rd ((w.alloc (.cells #[.bool false] 4)).alloc (.cells #[.slice A n c, .int .i64 0] 152)) x 1 A n (bv (putRec r))) := Lib.hid (D0.out.below (B1.mono (Nat.le_of_lt hx)))
  have X1 := Lib.hid (box_next X0.out B1)
  have O1 : Hid (((w.alloc (.cells #[.bool false] 4)).alloc (.cells #[.slice A n c, .int .i64 0] 152)).heap[w.heap.size]? = some (.cells #[.bool false] 4 (0, 0))) := Lib.hid (alloc_old' (alloc_at rfl))
  clear B1
  refine (get1_any (w.heap.size + 1) x A n c r _ R1.out D1.out (by omega) OK.out X1.out).mono ?_; rintro e w2 ⟨rfl, s, x2, own2, r2, t2⟩
  have O2 : Hid (w2.heap[w.heap.size]? = some (.cells #[.bool false] 4 (0, 0))) := Lib.hid ((t2.block _ (by simp; omega) (by omega) (by omega)).trans O1.out)
  have R2 := Lib.hid r2
  have X2 := Lib.hid x2
  have W2 := Lib.hid own2
  have T2 := Lib.hid t2
  clear x2 own2 r2 t2 R1 D1 X1 O1 D0 X0
  obtain ⟨x0, x1⟩ := R2.out.cells
  have y0 := cell_of_one O2.out
  have yf := free_of_one O2.out
  have e1 : (((putRec r).length : Int) == (n : Int)) = true := by have := HL.out; simp; omega
  rw [HL.out] at x1
  go_wp2_with fail
  refine leaves_cons (f := 146) (args := #[.pointer (some ⟨w.heap.size, 0, none⟩)]) (by simp) (by simp [go_sem]) ?_
  refine (read1_idle ⟨w.heap.size, 0, none⟩ _).mono ?_
  rintro e u' w'' ⟨rfl, rfl, rfl⟩
  have hfin : RetG x r w (.returned (.bool true)) (w2.setCell ⟨w.heap.size, 0, none⟩ (.bool true)) := by
    refine ⟨rfl, s, box_set X2.out (by omega) _, ?_, ?_⟩
    · have hb : w.heap.size < ((w.alloc (.cells #[.bool false] 4)).alloc (.cells #[.slice A n c, .int .i64 0] 152)).heap.size := by simp; omega
      exact ⟨((W2.out.a.set hb _)).more (Nat.le_of_lt hb), ((W2.out.e.set hb _)).more (Nat.le_of_lt hb), ((W2.out.l.set hb _)).more (Nat.le_of_lt hb), ((W2.out.c.set hb _)).more (Nat.le_of_lt hb)⟩
    · have b1 := HB1.out
      have t2 := T2.out
      refine ⟨t2.os.trans b1.os, t2.tape.trans b1.tape, t2.output.trans b1.output, ?_, fun k hk hne => ?_⟩
      · have := t2.size; have := b1.size; simp at *; omega
      · have hkx : k ≠ x := fun e => hne (by rw [e])
        rw [Below.heap_setCell _ _ _ _ (by simp only; omega), t2.block k (by simp; omega) (by omega) hkx]
        exact b1.block k hk
  have HF := Lib.hid hfin
  clear hfin
  simp [Leaves, settle, results, Try.results112, go_sem, y0]
  exact HF.out
theorem OwnV.setB {w : World} {B b i : Nat} {s : Sl} {a : List Val} (h : OwnV w B s a) (hb : b < B) (v : Value) : OwnV (w.setCell ⟨b, i, none⟩ v) B s a := h.set hb v
theorem RecOwn.set {w : World} {B b i : Nat} {r : Rec} {s : RS} (h : RecOwn w B r s) (hb : b < B) (v : Value) : RecOwn (w.setCell ⟨b, i, none⟩ v) B r s := ⟨h.a.set hb v, h.e.set hb v, h.l.set hb v, h.c.set hb v⟩
theorem RecOwn.at_ {w : World} {B : Nat} {r : Rec} {s : RS} (h : RecOwn w B r s) (ok : ROk2 r) : RecAt w r s := ⟨h.a.row, h.e.row, h.l.row, h.c.row ok.c.1⟩
def zeroC : Obj := .cells #[.int .i64 0, .int .i64 0, .int .i64 0, .int .i64 0, .slice none 0 0, .slice none 0 0, .slice none 0 0, .slice none 0 0] 37
set_option maxHeartbeats 2000000 in
set_option maxRecDepth 100000 in
theorem get_back (A : Option Addr) (n c : Nat) (r : Rec) (w : World) (h : Rd w w.heap.size 1 A n (bv (putRec r))) (hn : n ≤ 1000000000000) (hcap : n ≤ c ∧ c ≤ 9223372036854775807) (ok : ROk2 r) :
    Calls Try.prog 48 #[.slice A n c] w fun e w' => ∃ s : RS, e = .returned (.tuple #[rv r s, .bool true]) ∧ RecAt w' r s ∧ Below w.heap.size w w' := by
  have HB : Hid (Below w.heap.size w ((w.alloc zeroC).alloc zeroC)) := Lib.hid (by repeat (first | exact Below.refl _ _ | refine Below.alloc ?_ (by simp <;> omega) _))
  have D0 := Lib.hid h
  have OK := Lib.hid ok
  clear h ok
  go_enter Try.func48, Try.ntmps48
  go_wp2_with fail
  refine (read_any (w.heap.size + 1) A n c r _ ((D0.out.below HB.out).more (by omega)) hn hcap OK.out (alloc_at (by simp))).mono ?_
  rintro e w2 ⟨rfl, s, x2, own2, g2⟩
  have Z2 : Hid (w2.heap[w.heap.size]? = some (.cells #[.int .i64 0, .int .i64 0, .int .i64 0, .int .i64 0, .slice none 0 0, .slice none 0 0, .slice none 0 0, .slice none 0 0] 37 (0, 0))) := Lib.hid ((g2.block w.heap.size (by simp; omega) (by simp)).trans (alloc_old' (alloc_at rfl)))
  have X2 := Lib.hid x2
  have W2 := Lib.hid own2
  have B2 : Hid (Below w.heap.size w w2) := Lib.hid (HB.out.trans ⟨g2.os, g2.tape, g2.output, g2.size, fun k hk => g2.block k (by simp; omega) (by simp; omega)⟩)
  clear x2 own2 g2
  obtain ⟨⟨⟨x0, x1⟩, x2, x3⟩, ⟨x4, x5⟩, x6, x7⟩ := cells8 X2.out
  obtain ⟨⟨⟨y0, y1⟩, y2, y3⟩, ⟨y4, y5⟩, y6, y7⟩ := cells8 Z2.out
  obtain ⟨⟨⟨z0, z1⟩, z2, z3⟩, ⟨z4, z5⟩, z6, z7⟩ := frozen8 Z2.out
  go_wp2_with fail
  refine bodyPost_ret (v := .tuple #[rv r s, .bool true]) (by simp [results, Try.results48, go_sem, rv, y0, y1, y2, y3, y4, y5, y6, y7]) rfl ?_
  have hb : w.heap.size < ((w.alloc zeroC).alloc zeroC).heap.size := by simp; omega
  refine ⟨s, rfl, RecOwn.at_ (B := ((w.alloc zeroC).alloc zeroC).heap.size) ?_ OK.out, ?_⟩
  · exact (((((((W2.out.set hb _).set hb _).set hb _).set hb _).set hb _).set hb _).set hb _).set hb _
  · repeat (first | (with_reducible exact B2.out) | refine Below.setCell ?_ (by simp) _)
end Go.Proofs.Ytpkoijlbbfffiaa.R
