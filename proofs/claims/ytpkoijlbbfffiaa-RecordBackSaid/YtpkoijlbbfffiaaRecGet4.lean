/- The contracts of record's reader at rows of changes. -/
import Derived.Test.YtpkoijlbbfffiaaRecGet3
namespace Go.Proofs.Ytpkoijlbbfffiaa.R
open Go.RowKit O V

theorem chgE : Elem Try.prog 35 42 4 48 (.agg #[.int .i64 0, .int .i64 0, .bool false, .slice none 0 0]) := by
  obtain ⟨i, hi, h1, h2, h3⟩ := info_parts (show (Try.prog.info? 42).map (fun i => (i.zero, i.size, i.bytes)) = some (some (.agg #[.int .i64 0, .int .i64 0, .bool false, .slice none 0 0]), 4, 48) by kernel_rfl)
  exact ⟨Try.underlying35, i, hi, h1, h2, h3, rfl, by omega⟩
/-- Two own rows of elements of two types lie in two blocks. -/
theorem own_apart {w : World} {b b' e e' size size' n n' : Nat} {v v' : Value} {xs ys : List Value} (h : w.ownsRow b e size v n xs) (h' : w.ownsRow b' e' size' v' n' ys) (hne : e ≠ e') : v.ownBlock = none ∨ v.ownBlock ≠ v'.ownBlock := by
  rcases h.2 with ⟨rfl, _⟩ | ⟨g, cap, cur, rfl, _, hg, _⟩
  · exact .inl rfl
  · rcases h'.2 with ⟨rfl, _⟩ | ⟨g', cap', cur', rfl, _, hg', _⟩
    · exact .inr (by simp [Value.ownBlock])
    · refine .inr (fun e => ?_)
      simp [Value.ownBlock] at e
      subst e
      rw [hg] at hg'
      injection hg' with hg'
      injection hg' with _ hg'
      exact hne hg'
def ChO (w : World) (B : Nat) (x : Chg) (cs : List Value) : Prop := ∃ s : Sl, cs = [.int .i64 x.table, .int .i64 x.key, .bool x.gone, .slice s.A s.n s.c] ∧ OwnV w B s x.row
theorem ChO.size {w : World} {B : Nat} : ∀ (a : Chg) vs, ChO w B a vs → vs.length = 4 := by rintro a vs ⟨s, rfl, _⟩; rfl
theorem ChO.grown {w w' : World} {B g : Nat} {l : List Chg} {xs : List Value} (h : Reps (ChO w B) l xs) (hg : w.grownBy w' (some g)) (hb : g < B) : Reps (ChO w' B) l xs := h.imp (fun a vs ⟨s, e, o⟩ => ⟨s, e, o.grown hg hb⟩)
theorem ChO.below {w w' : World} {B : Nat} {l : List Chg} {xs : List Value} (h : Reps (ChO w B) l xs) (hg : Below w.heap.size w w') : Reps (ChO w' B) l xs := h.imp (fun a vs ⟨s, e, o⟩ => ⟨s, e, o.below hg⟩)
theorem ChO.beside {w w' : World} {B b size n : Nat} {v : Value} {ys : List Value} {l : List Chg} {xs : List Value} (h : Reps (ChO w B) l xs) (ho : w.ownsRow b 42 size v n ys) (hg : w.grownBy w' v.ownBlock) : Reps (ChO w' B) l xs :=
  h.imp (fun a vs ⟨s, e, zs, o1, o2⟩ => ⟨s, e, zs, o1.kept hg (own_apart o1 ho (by decide)), o2⟩)
theorem ChO.more {w : World} {B B' : Nat} {l : List Chg} {xs : List Value} (h : Reps (ChO w B) l xs) (hb : B' ≤ B) : Reps (ChO w B') l xs := h.imp (fun a vs ⟨s, e, o⟩ => ⟨s, e, o.more hb⟩)
theorem uintL_pos' (a : Nat) : 0 < (uintL a).length := by
  by_cases h : a < 128
  · rw [uintL_lt h]; simp
  · rw [uintL_ge (by omega)]; simp
def RetH (g : Nat) (A : Option Addr) (n c : Nat) (l : List UInt8) (k : Nat) (a : List Chg) (w : World) (e : Ending) (w' : World) : Prop :=
  ∃ (A' : Option Addr) (n' c' : Nat) (xs : List Value), e = .returned (.slice A' n' c') ∧ w'.ownsRow w.heap.size 42 4 (.slice A' n' c') n' xs ∧ Reps (ChO w' w.heap.size) a xs ∧ Rdr w' g A n c l k ∧ w.grownBy w' (some g)
theorem putChgs_ge : ∀ (a : List Chg), a.length ≤ (putChgs a).length
  | [] => by simp [putChgs]
  | x :: a => by
    have h1 := putChgs_ge a
    have h2 : 0 < (chgL x).length := by
      have := uintL_pos' x.table.toNat
      unfold chgL
      simp
      omega
    unfold putChgs at h1 ⊢
    rw [List.flatMap_cons, List.length_append, List.length_cons]
    omega
theorem chgs_split {a : List Chg} {k : Nat} (h : k < a.length) (pre rest : List UInt8) : pre ++ (putChgs a ++ rest) = (pre ++ putChgs (a.take k)) ++ (chgL a[k] ++ (putChgs (a.drop (k + 1)) ++ rest)) := by
  have e : putChgs a = putChgs (a.take k) ++ (chgL a[k] ++ putChgs (a.drop (k + 1))) := by
    conv => lhs; rw [← List.take_append_drop k a, List.drop_eq_getElem_cons h]
    unfold putChgs
    rw [List.flatMap_append, List.flatMap_cons]
  rw [e]
  simp [List.append_assoc]
set_option maxHeartbeats 2000000 in
set_option maxRecDepth 100000 in
theorem rrowsC_any (g : Nat) (A : Option Addr) (n c : Nat) (pre rest : List UInt8) (a : List Chg) (w : World) (h : Rdr w g A n c (pre ++ (putChgs a ++ rest)) pre.length) (ha : ∀ x ∈ a, COk2 x) (h20 : a.length ≤ 20) :
    Calls Try.prog 116 #[.pointer (some ⟨g, 0, none⟩), .int .i64 (a.length : Int), .func (.func 117) #[.pointer (some ⟨g, 0, none⟩)] #[]] w
      (RetH g A n c (pre ++ (putChgs a ++ rest)) (pre.length + (putChgs a).length) a w) := by
  have hg := h.lt
  have hl := h.len
  have hcap := h.cap
  have hn := h.n
  have hge := putChgs_ge a
  have hkn : pre.length + a.length ≤ n := by rw [← hl]; simp only [List.length_append]; omega
  have HR := Lib.hid h
  have HA := Lib.hid ha
  have hsp := fun k hk => chgs_split (a := a) (k := k) hk pre rest
  have HSP := Lib.hid hsp
  clear h hl ha hge hsp
  obtain ⟨m, hm⟩ : ∃ m, a.length = m := ⟨_, rfl⟩
  rw [hm] at h20 hkn ⊢
  have HM := Lib.hid hm
  clear hm
  generalize hL : pre ++ (putChgs a ++ rest) = L at *
  clear hL
  obtain ⟨p, hp⟩ : ∃ p, pre.length = p := ⟨_, rfl⟩
  rw [hp] at HR hkn ⊢
  have HP := Lib.hid hp
  clear hp
  have d0 : (m : Int) ≤ (n : Int) - (p : Int) := by omega
  have d1 : decide ((m : Int) ≤ (n : Int) - (p : Int)) = true := by simp; omega
  have hwr : IntKind.i64.wrap ((n : Int) - (p : Int)) = (n : Int) - (p : Int) := IntWalk.i64_in _ (by omega)
  go_enter Try.func116, Try.ntmps116
  go_wp2_with fail
  refine wp_region_sched [(0, true), (1, true), (2, true), (3, true), (4, true), (5, true), (6, true), (7, true), (8, true), (9, true), (10, true), (11, true), (12, false)] (by kernel_rfl) (by kernel_rfl) (fun _ _ d _ _ h => by cases d <;> exact h) ?_
  refine swith (fun W hW => (HR.out.next ((Below.refl _ _).drew.trans (hW.out.mono (Nat.le_refl _)))).cells) (fun q => ?_)
  repeat (first | (refine sreadx rfl rfl ?_; apply Exists.intro; apply And.intro; (· (intro W hW; first | (go_simp; done) | (go_simp; with_reducible rfl) | (go_simp; rw [if_neg (by omega)]; done) | (go_simp; rw [if_neg (by omega)]; with_reducible rfl))); simp only [Act.put, List.setIfInBounds_toArray, List.set_cons_zero, List.set_cons_succ]) | (refine sskip rfl rfl ?_; simp only [Act.put, List.setIfInBounds_toArray, List.set_cons_zero, List.set_cons_succ]))
  refine scall rfl rfl (fun K hK => ?_)
  go_simp
  refine (must_yes _).mono ?_; rintro e w2 ⟨rfl, rfl⟩
  go_wp2_with fail
  refine hK.out _ _ (by exact Grow.refl _) ?_
  clear hK K
  try simp only [Act.put, List.setIfInBounds_toArray, List.set_cons_zero, List.set_cons_succ]
  repeat (first | (refine sreadx rfl rfl ?_; apply Exists.intro; apply And.intro; (· (intro W hW; first | (go_simp; done) | (go_simp; with_reducible rfl) | (go_simp; rw [if_neg (by omega)]; done) | (go_simp; rw [if_neg (by omega)]; with_reducible rfl))); simp only [Act.put, List.setIfInBounds_toArray, List.set_cons_zero, List.set_cons_succ]) | (refine sskip rfl rfl ?_; simp only [Act.put, List.setIfInBounds_toArray, List.set_cons_zero, List.set_cons_succ]))
  refine sdone ?_
  clear q hwr
  have R1 := Lib.hid (HR.out.next (Below.refl _ _).drew)
  have G1 : Hid (w.grownBy w.drew (some g)) := Lib.hid (gb_below (Below.refl _ _).drew _)
  go_wp2_with fail
  go_loopw [6, 21] (fun v i wr => ∃ (k : Nat) (A1 : Option Addr) (n1 c1 : Nat) (xs : List Value), k ≤ m ∧ i = .int .i64 k ∧ v = .slice A1 n1 c1 ∧ wr.ownsRow w.heap.size 42 4 (.slice A1 n1 c1) n1 xs ∧ Hid (Reps (ChO wr w.heap.size) (a.take k) xs) ∧ Rdr wr g A n c L (p + (putChgs (a.take k)).length) ∧ w.grownBy wr (some g)) (fun _ i _ => m - (intOf i).toNat)
  case atStart => exact ⟨0, none, 0, 0, [], by omega, rfl, rfl, World.ownsRow_nil _ _ _ _, Lib.hid (by simp [Reps]), by simpa [putChgs] using R1.out, G1.out⟩
  case round =>
    obtain ⟨k, A1, n1, c1, xs, hk, rfl, rfl, ho, hrp, hR, hG⟩ := hrel
    clear R1 G1
    have hn1 : n1 = k := by
      have e1 := ho.1
      have e2 := hrp.out.length ChO.size
      have e3 := HM.out
      simp at e2
      omega
    subst hn1
    have HO := Lib.hid ho
    have HG := Lib.hid hG
    have hbs := hG.size
    by_cases hlt : n1 < m
    · have hlt' : n1 < a.length := by rw [HM.out]; exact hlt
      have e1 := HSP.out n1 hlt'
      have ex := HA.out a[n1] (List.getElem_mem hlt')
      have hst := Lib.hid (putChgs_step hlt')
      have htk := Lib.hid (List.take_succ_eq_append_getElem hlt')
      have hR' : Rdr wr g A n c ((pre ++ putChgs (a.take n1)) ++ (chgL a[n1] ++ (putChgs (a.drop (n1 + 1)) ++ rest))) (pre ++ putChgs (a.take n1)).length := by
        rw [← e1, List.length_append, HP.out]; exact hR
      have hq := rchange_any g A n c _ _ a[n1] _ hR' ex
      rw [← e1, List.length_append, HP.out] at hq
      have HQ := Lib.hid hq
      clear e1 ex hR' hq ho hG hR
      generalize a[n1] = x at *
      go_wp2_with fail
      refine HQ.out.mono ?_; rintro e w2 ⟨s, rfl, o2, r2, g2⟩
      have HO2 := Lib.hid (own_keep HO.out g2 hg)
      have HG2 := Lib.hid (gb_trans HG.out g2)
      have R2 := Lib.hid r2
      have HS := Lib.hid (o2.more hbs)
      have hrp2 := Lib.hid (ChO.grown hrp.out g2 hg)
      have hbs2 := Nat.le_trans hbs g2.size
      clear r2 g2 o2 HQ HO HG hrp
      simp only [cgv]
      go_wp2_with (at_builtin; refine wpList_app rfl (.tmp 23) (.tmp 26) chgE rfl w.heap.size xs rfl (HO2.out.alloc _) rfl [.int .i64 x.table, .int .i64 x.key, .bool x.gone, .slice s.A s.n s.c] (Rd.made _ [.int .i64 x.table, .int .i64 x.key, .bool x.gone, .slice s.A s.n s.c] rfl rfl) (by simp [Value.oneCell']) (by unfold maxLen; omega) (by omega) (by simp; omega) ?_; intro A3 c3 w3 o3 g3 _)
      have hoa := HO2.out.alloc (.cells #[.int .i64 x.table, .int .i64 x.key, .bool x.gone, .slice s.A s.n s.c] 42)
      have hown := fun j hj => (hoa.lt j hj).1
      have R3 := (R2.out.next ((Below.refl _ _).alloc (Nat.le_refl _) _)).grown g3 (fun j hj => Nat.lt_of_lt_of_le hg (hown j hj))
      have G3 := gb_own (gb_trans HG2.out (gb_below ((Below.refl _ _).alloc (Nat.le_refl _) _) _)) g3 hown
      have hrp3 := ChO.beside (ChO.below hrp2.out ((Below.refl _ _).alloc (Nat.le_refl _) (.cells #[.int .i64 x.table, .int .i64 x.key, .bool x.gone, .slice s.A s.n s.c] 42))) hoa g3
      have hone : Reps (ChO _ w.heap.size) [x] [.int .i64 x.table, .int .i64 x.key, .bool x.gone, .slice s.A s.n s.c] := .one ⟨s, rfl, HS.out⟩
      have hone3 := ChO.beside (ChO.below hone ((Below.refl _ _).alloc (Nat.le_refl _) (.cells #[.int .i64 x.table, .int .i64 x.key, .bool x.gone, .slice s.A s.n s.c] 42))) hoa g3
      go_roundw
      case rel => exact ⟨n1 + 1, A3, n1 + 1, c3, _, by omega, by go_num, rfl, o3, Lib.hid (by rw [htk.out]; exact hrp3.append hone3), by rw [hst.out, List.length_append, ← Nat.add_assoc]; exact R3, G3⟩
      case measure => simp [intOf]; omega
    · obtain rfl : n1 = m := by omega
      go_wp2_with fail
      go_ret
      have e1 : a.take n1 = a := by rw [← HM.out, List.take_length]
      rw [e1] at hrp hR
      exact ⟨A1, n1, c1, xs, rfl, ho, hrp.out, hR, hG⟩
end Go.Proofs.Ytpkoijlbbfffiaa.R
