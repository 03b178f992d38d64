/- The contracts of record's reader at rows of values. -/
import Derived.Test.YtpkoijlbbfffiaaRecGet
import Derived.IntWalk
namespace Go.Proofs.Ytpkoijlbbfffiaa.R
open Go.RowKit O V

theorem badV_cases {x : Val} (h : badV x = false) : x = ⟨0, 0, []⟩ ∨ right x = true := by
  unfold badV at h
  by_cases e : x = ⟨0, 0, []⟩
  · exact .inl e
  · right; simpa [e] using h
theorem rvalue_any (g : Nat) (A : Option Addr) (n c : Nat) (pre rest : List UInt8) (x : Val) (w : World) (h : Rdr w g A n c (pre ++ (putVal x ++ rest)) pre.length) (hb : badV x = false) (ox : VOk x) :
    Calls Try.prog 148 #[.pointer (some ⟨g, 0, none⟩)] w (RetR g A n c (pre ++ (putVal x ++ rest)) (pre.length + (putVal x).length) (vv x) w) := by
  rcases badV_cases hb with e | e
  · subst e
    have hp : putVal ⟨0, 0, []⟩ = [0] := putVal_no rfl
    rw [hp] at h ⊢
    exact rvalue_zero g A n c pre.length _ w h (by simp) (by simp)
  · have hp := putVal_yes e
    rw [hp] at h ⊢
    obtain ⟨b, tl, hbt, hb0⟩ := putV_head e
    have hlt : pre.length < (pre ++ (putV x ++ rest)).length := by rw [hbt]; simp
    refine rvalue_yes g A n c pre.length _ x _ w h hlt ?_ (getV_put pre rest x e ox.n1 ox.n2)
    have : (pre ++ (putV x ++ rest))[pre.length] = b := by simp [hbt]
    rw [this]; exact hb0
def RetV (g : Nat) (A : Option Addr) (n c : Nat) (l : List UInt8) (k : Nat) (a : List Val) (w : World) (e : Ending) (w' : World) : Prop :=
  ∃ (A' : Option Addr) (n' c' : Nat) (xs : List Value), e = .returned (.slice A' n' c') ∧ w'.ownsRow w.heap.size 23 3 (.slice A' n' c') n' xs ∧ Reps ValC a xs ∧ Rdr w' g A n c l k ∧ w.grownBy w' (some g)
theorem putVals_ge : ∀ (a : List Val), a.length ≤ (putVals a).length
  | [] => by simp [putVals]
  | x :: a => by
    have h1 := putVals_ge a
    have h2 : 0 < (putVal x).length := by
      unfold putVal
      split
      · rename_i h
        obtain ⟨b, tl, e, _⟩ := putV_head h
        rw [e]; simp
      · simp
    unfold putVals at h1 ⊢
    rw [List.flatMap_cons, List.length_append, List.length_cons]
    omega
theorem vals_split {a : List Val} {k : Nat} (h : k < a.length) (pre rest : List UInt8) : pre ++ (putVals a ++ rest) = (pre ++ putVals (a.take k)) ++ (putVal a[k] ++ (putVals (a.drop (k + 1)) ++ rest)) := by
  have e : putVals a = putVals (a.take k) ++ (putVal a[k] ++ putVals (a.drop (k + 1))) := by
    conv => lhs; rw [← List.take_append_drop k a, List.drop_eq_getElem_cons h]
    unfold putVals
    rw [List.flatMap_append, List.flatMap_cons]
  rw [e]
  simp [List.append_assoc]
theorem reps_snoc {l : List Val} {k : Nat} {xs : List Value} (h : k < l.length) (hr : Reps ValC (l.take k) xs) (ho : VOk l[k]) : Reps ValC (l.take (k + 1)) (xs ++ [.int .i64 l[k].k, .int .i64 l[k].n, .string ⟨l[k].s.toArray⟩]) := by
  rw [List.take_succ_eq_append_getElem h]
  exact hr.append (.one ⟨rfl, ho⟩)
theorem own_keep {w w' : World} {base e size n g : Nat} {v : Value} {xs : List Value} (h : w.ownsRow base e size v n xs) (hg : w.grownBy w' (some g)) (hb : g < base) : w'.ownsRow base e size v n xs :=
  h.kept hg (.inr (fun e => by have := (h.lt _ e).1; omega))
theorem Rdr.grown {w w' : World} {g : Nat} {A : Option Addr} {n c : Nat} {l : List UInt8} {k : Nat} {row : Option Nat} (h : Rdr w g A n c l k) (hg : w.grownBy w' row) (hr : ∀ j, row = some j → g < j) : Rdr w' g A n c l k :=
  ⟨by rw [hg.block g h.lt (fun e => by have := hr g e.symm; omega)]; exact h.box, h.row.keep (fun q hq => World.cell?_of_block (hg.block q.block (Nat.lt_trans hq h.lt) (fun e => by have := hr _ e.symm; omega))), h.cap, h.n⟩
theorem gb_own {a b c : World} {row r2 : Option Nat} (h : a.grownBy b row) (k : b.grownBy c r2) (hr : ∀ j, r2 = some j → a.heap.size ≤ j) : a.grownBy c row :=
  ⟨k.os.trans h.os, k.tape.trans h.tape, k.output.trans h.output, Nat.le_trans h.size k.size, fun i hi hne => (k.block i (Nat.lt_of_lt_of_le hi h.size) (fun e => by have := hr i e.symm; omega)).trans (h.block i hi hne)⟩
set_option maxHeartbeats 2000000 in
set_option maxRecDepth 100000 in
theorem rrowsV_any (g : Nat) (A : Option Addr) (n c : Nat) (pre rest : List UInt8) (a : List Val) (w : World) (h : Rdr w g A n c (pre ++ (putVals a ++ rest)) pre.length) (ha : ∀ x ∈ a, badV x = false ∧ VOk x) (h20 : a.length ≤ 20) :
    Calls Try.prog 147 #[.pointer (some ⟨g, 0, none⟩), .int .i64 (a.length : Int), .func (.func 148) #[.pointer (some ⟨g, 0, none⟩)] #[]] w
      (RetV g A n c (pre ++ (putVals a ++ rest)) (pre.length + (putVals a).length) a w) := by
  have hg := h.lt
  have hl := h.len
  have hcap := h.cap
  have hn := h.n
  have hge := putVals_ge a
  have hkn : pre.length + a.length ≤ n := by rw [← hl]; simp only [List.length_append]; omega
  have HR := Lib.hid h
  have HA := Lib.hid ha
  have hsp := fun k hk => vals_split (a := a) (k := k) hk pre rest
  have HSP := Lib.hid hsp
  clear h hl ha hge hsp
  obtain ⟨m, hm⟩ : ∃ m, a.length = m := ⟨_, rfl⟩
  rw [hm] at h20 hkn ⊢
  have HM := Lib.hid hm
  clear hm
  generalize hL : pre ++ (putVals a ++ rest) = L at *
  clear hL
  obtain ⟨p, hp⟩ : ∃ p, pre.length = p := ⟨_, rfl⟩
  rw [hp] at HR hkn ⊢
  have HP := Lib.hid hp
  clear hp
  have d0 : (m : Int) ≤ (n : Int) - (p : Int) := by omega
  have d1 : decide ((m : Int) ≤ (n : Int) - (p : Int)) = true := by simp; omega
  have hwr : IntKind.i64.wrap ((n : Int) - (p : Int)) = (n : Int) - (p : Int) := IntWalk.i64_in _ (by omega)
  go_enter Try.func147, Try.ntmps147
  go_wp2_with fail
  refine wp_region_sched [(0, true), (1, true), (2, true), (3, true), (4, true), (5, true), (6, true), (7, true), (8, true), (9, true), (10, true), (11, true), (12, false)] (by kernel_rfl) (by kernel_rfl) (fun _ _ d _ _ h => by cases d <;> exact h) ?_
  refine swith (fun W hW => (HR.out.next ((Below.refl _ _).drew.trans (hW.out.mono (Nat.le_refl _)))).cells) (fun q => ?_)
  repeat (first | (refine sreadx rfl rfl ?_; apply Exists.intro; apply And.intro; (· (intro W hW; first | (go_simp; done) | (go_simp; with_reducible rfl) | (go_simp; rw [if_neg (by omega)]; done) | (go_simp; rw [if_neg (by omega)]; with_reducible rfl))); simp only [Act.put, List.setIfInBounds_toArray, List.set_cons_zero, List.set_cons_succ]) | (refine sskip rfl rfl ?_; simp only [Act.put, List.setIfInBounds_toArray, List.set_cons_zero, List.set_cons_succ]))
  refine scall rfl rfl (fun K hK => ?_)
  go_simp
  refine (must_yes _).mono ?_; rintro e w2 ⟨rfl, rfl⟩
  go_wp2_with fail
  refine hK.out _ _ (by exact Grow.refl _) ?_
  clear hK K
  try simp only [Act.put, List.setIfInBounds_toArray, List.set_cons_zero, List.set_cons_succ]
  repeat (first | (refine sreadx rfl rfl ?_; apply Exists.intro; apply And.intro; (· (intro W hW; first | (go_simp; done) | (go_simp; with_reducible rfl) | (go_simp; rw [if_neg (by omega)]; done) | (go_simp; rw [if_neg (by omega)]; with_reducible rfl))); simp only [Act.put, List.setIfInBounds_toArray, List.set_cons_zero, List.set_cons_succ]) | (refine sskip rfl rfl ?_; simp only [Act.put, List.setIfInBounds_toArray, List.set_cons_zero, List.set_cons_succ]))
  refine sdone ?_
  clear q hwr
  have R1 := Lib.hid (HR.out.next (Below.refl _ _).drew)
  have G1 : Hid (w.grownBy w.drew (some g)) := Lib.hid (gb_below (Below.refl _ _).drew _)
  go_wp2_with fail
  go_loopw [6, 21] (fun v i wr => ∃ (k : Nat) (A1 : Option Addr) (n1 c1 : Nat) (xs : List Value), k ≤ m ∧ i = .int .i64 k ∧ v = .slice A1 n1 c1 ∧ wr.ownsRow w.heap.size 23 3 (.slice A1 n1 c1) n1 xs ∧ Hid (Reps ValC (a.take k) xs) ∧ Rdr wr g A n c L (p + (putVals (a.take k)).length) ∧ w.grownBy wr (some g)) (fun _ i _ => m - (intOf i).toNat)
  case atStart => exact ⟨0, none, 0, 0, [], by omega, rfl, rfl, World.ownsRow_nil _ _ _ _, Lib.hid (by simp [Reps]), by simpa [putVals] using R1.out, G1.out⟩
  case round =>
    obtain ⟨k, A1, n1, c1, xs, hk, rfl, rfl, ho, hrp, hR, hG⟩ := hrel
    clear R1 G1
    have hn1 : n1 = k := by
      have e1 := ho.1
      have e2 := hrp.out.length ValC.size
      have e3 := HM.out
      simp at e2
      omega
    subst hn1
    have HO := Lib.hid ho
    have HG := Lib.hid hG
    have hbs := hG.size
    by_cases hlt : n1 < m
    · have hlt' : n1 < a.length := by rw [HM.out]; exact hlt
      have e1 := HSP.out n1 hlt'
      have ex := HA.out a[n1] (List.getElem_mem hlt')
      have HX := Lib.hid ex
      have hsn := Lib.hid (reps_snoc hlt' hrp.out ex.2)
      have hst := Lib.hid (putVals_step hlt')
      have hR' : Rdr wr g A n c ((pre ++ putVals (a.take n1)) ++ (putVal a[n1] ++ (putVals (a.drop (n1 + 1)) ++ rest))) (pre ++ putVals (a.take n1)).length := by
        rw [← e1, List.length_append, HP.out]; exact hR
      have hq := rvalue_any g A n c _ _ a[n1] _ hR' ex.1 ex.2
      rw [← e1, List.length_append, HP.out] at hq
      have HQ := Lib.hid hq
      clear e1 ex hR' hq ho hG hR
      generalize a[n1] = x at *
      go_wp2_with fail
      refine HQ.out.mono ?_; rintro e w2 ⟨rfl, r2, g2⟩
      have HO2 := Lib.hid (own_keep HO.out g2 hg)
      have HG2 := Lib.hid (gb_trans HG.out g2)
      have R2 := Lib.hid r2
      have hbs2 := Nat.le_trans hbs g2.size
      clear r2 g2 HQ HO HG
      simp only [vv]
      go_wp2_with (at_builtin; refine wpList_app rfl (.tmp 23) (.tmp 26) valE rfl w.heap.size xs rfl (HO2.out.alloc _) rfl [.int .i64 x.k, .int .i64 x.n, .string ⟨x.s.toArray⟩] (Rd.made _ [.int .i64 x.k, .int .i64 x.n, .string ⟨x.s.toArray⟩] rfl rfl) (by simp [Value.oneCell']) (by unfold maxLen; omega) (by omega) (by simp; omega) ?_; intro A3 c3 w3 o3 g3 _)
      have hown := fun j hj => ((HO2.out.alloc (.cells #[.int .i64 x.k, .int .i64 x.n, .string ⟨x.s.toArray⟩] 23)).lt j hj).1
      have R3 := (R2.out.next ((Below.refl _ _).alloc (Nat.le_refl _) _)).grown g3 (fun j hj => Nat.lt_of_lt_of_le hg (hown j hj))
      have G3 := gb_own (gb_trans HG2.out (gb_below ((Below.refl _ _).alloc (Nat.le_refl _) _) _)) g3 hown
      go_roundw
      case rel => exact ⟨n1 + 1, A3, n1 + 1, c3, _, by omega, by go_num, rfl, o3, hsn, by rw [hst.out, List.length_append, ← Nat.add_assoc]; exact R3, G3⟩
      case measure => simp [intOf]; omega
    · obtain rfl : n1 = m := by omega
      go_wp2_with fail
      go_ret
      have e1 : a.take n1 = a := by rw [← HM.out, List.take_length]
      rw [e1] at hrp hR
      exact ⟨A1, n1, c1, xs, rfl, ho, hrp.out, hR, hG⟩
theorem rvalues_any (g : Nat) (A : Option Addr) (n c : Nat) (pre rest : List UInt8) (a : List Val) (w : World) (h : Rdr w g A n c (pre ++ (rowL a ++ rest)) pre.length) (ha : ∀ x ∈ a, badV x = false ∧ VOk x) (h20 : a.length ≤ 20) :
    Calls Try.prog 115 #[.pointer (some ⟨g, 0, none⟩)] w (RetV g A n c (pre ++ (rowL a ++ rest)) (pre.length + (rowL a).length) a w) := by
  have hg := h.lt
  have e1 : pre ++ (rowL a ++ rest) = pre ++ (uintL a.length ++ (putVals a ++ rest)) := by simp [rowL, List.append_assoc]
  have e2 : pre ++ (rowL a ++ rest) = (pre ++ uintL a.length) ++ (putVals a ++ rest) := by simp [rowL, List.append_assoc]
  have e3 : pre.length + (rowL a).length = (pre ++ uintL a.length).length + (putVals a).length := by simp [rowL]; omega
  rw [e1] at h
  have h1 := rnumber_any g A n c pre (putVals a ++ rest) a.length w h (by omega)
  have H1 := Lib.hid h1
  have H2 : Hid (∀ W, Rdr W g A n c (pre ++ (uintL a.length ++ (putVals a ++ rest))) (pre.length + (uintL a.length).length) → Calls Try.prog 147 #[.pointer (some ⟨g, 0, none⟩), .int .i64 (a.length : Int), .func (.func 148) #[.pointer (some ⟨g, 0, none⟩)] #[]] W
      (RetV g A n c (pre ++ (rowL a ++ rest)) (pre.length + (rowL a).length) a W)) := Lib.hid (fun W hW => by
    rw [e3, e2]
    rw [← e1, e2, show pre.length + (uintL a.length).length = (pre ++ uintL a.length).length by simp] at hW
    exact rrowsV_any g A n c _ rest a W hW ha h20)
  clear h h1 e1 e2 e3
  go_enter Try.func115, Try.ntmps115
  go_wp2_with fail
  refine H1.out.mono ?_; rintro e w1 ⟨rfl, r1, g1⟩
  go_wp2_with fail
  refine (H2.out _ r1).mono ?_; rintro e w2 ⟨A2, n2, c2, xs, rfl, o2, hr2, r2, g2⟩
  go_wp2_with fail
  go_ret
  exact ⟨A2, n2, c2, xs, rfl, own_more o2 g1.size, hr2, r2, gb_trans g1 g2⟩
end Go.Proofs.Ytpkoijlbbfffiaa.R
