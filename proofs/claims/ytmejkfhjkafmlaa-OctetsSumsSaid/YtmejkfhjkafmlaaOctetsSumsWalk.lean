/- OctetsSums' walk. -/
import Derived.Test.YtmejkfhjkafmlaaOctSum
import Derived.Test.YtmejkfhjkafmlaaSched
import Derived.Test.YtmejkfhjkafmlaaOpen
namespace Go.Proofs.Ytmejkfhjkafmlaa.octetsSums
open Go.RowKit O

/-- The sum's low half: with another byte in one place it is another one. -/
theorem sumP_fst (l : List UInt8) : (sumP l).1 = sumX l := by
  suffices h : ∀ (l : List UInt8) (p : Nat × Nat), (l.foldl sumStep p).1 = l.foldl (fun x c => (x + c.toNat) % 65521) p.1 from h l (1, 0)
  intro l
  induction l with
  | nil => intro p; rfl
  | cons c l ih => intro p; simp only [List.foldl_cons]; rw [ih]; rfl
theorem fold_add (l : List UInt8) : ∀ x, x < 65521 → (l.foldl (fun x c => (x + c.toNat) % 65521) x) = (x + (l.map (·.toNat)).sum) % 65521 := by
  induction l with
  | nil => intro x hx; simp; omega
  | cons c l ih => intro x hx; simp only [List.foldl_cons, List.map_cons, List.sum_cons]; rw [ih _ (by omega)]; omega
theorem sumX_eq (l : List UInt8) : sumX l = (1 + (l.map (·.toNat)).sum) % 65521 := fold_add l 1 (by omega)
theorem sum_set (l : List UInt8) (k : Nat) (hk : k < l.length) (c : UInt8) : ((l.set k c).map (·.toNat)).sum + (l[k]).toNat = (l.map (·.toNat)).sum + c.toNat := by
  induction l generalizing k with
  | nil => simp at hk
  | cons a l ih =>
    rcases k with _ | k
    · simp; omega
    · have := ih k (by simpa using hk)
      simp only [List.set_cons_succ, List.map_cons, List.sum_cons, List.getElem_cons_succ]
      omega
/-- One byte set to another: the sums are the same just where the bytes are. -/
theorem sums_iff (l : List UInt8) (k : Nat) (hk : k < l.length) (c : UInt8) : (sumN l = sumN (l.set k c)) ↔ l[k] = c := by
  constructor
  · intro h
    have h1 := sumP_lt l
    have h2 := sumP_lt (l.set k c)
    unfold sumN at h
    have h3 : (sumP l).1 = (sumP (l.set k c)).1 := by omega
    rw [sumP_fst, sumP_fst, sumX_eq, sumX_eq] at h3
    have h4 := sum_set l k hk c
    have h5 := (l[k]).toNat_lt
    have h6 := c.toNat_lt
    have : (l[k]).toNat = c.toNat := by omega
    exact UInt8.toNat_inj.1 this
  · rintro rfl
    simp

set_option maxRecDepth 100000 in
set_option maxHeartbeats 2000000 in
theorem walk (A : Option Addr) (n c : Nat) (l0 : List UInt8) (at_ x : Int) (w : World) (h0 : IsB w A n c l0) (hat : (Lit.int .u64 at_).wf = true) (hx : (Lit.int .u8 x).wf = true) :
    Calls Try.prog 5 #[.slice A n c, .int .u64 at_, .int .u8 x] w fun e w' => e = .returned (.bool true) ∧ Below w.heap.size w w' := by
  obtain ⟨h, hnc, hcm⟩ := h0
  unfold maxLen at hcm
  have hat' := bounds_u64 hat
  obtain ⟨cb, rfl⟩ := wf_u8 hx
  clear hat hx
  go_enter Try.func5, Try.ntmps5
  go_wp2_with fail
  refine (cut_any A n c l0 w h hnc hcm).mono ?_; rintro e w1 ⟨m, c', rfl, hm, hmc, hr, rfl⟩
  generalize l0.take 300 = l at hr
  have hl : l.length = m := by have := hr.1; simp at this; omega
  clear h hnc hcm
  rcases Nat.eq_zero_or_pos m with h0 | h0
  · subst h0
    clear hl
    go_wp2_with fail
    refine (lives_any _).mono ?_; rintro e w2 ⟨rfl, hb⟩
    go_wp2_with fail
    go_ret
    exact ⟨rfl, hb⟩
  · have hz : ((m : Int) == 0) = false := by simp; omega
    subst hl
    obtain ⟨b, off, rfl, hbl⟩ := hr.some_ h0
    obtain ⟨k, hk⟩ : ∃ k : Nat, at_ % (l.length : Int) = k := ⟨(at_ % (l.length : Int)).toNat, by have := Int.emod_nonneg at_ (b := (l.length : Int)) (by omega); omega⟩
    have hkl : k < l.length := by have := Int.emod_lt_of_pos at_ (b := (l.length : Int)) (by omega); omega
    have hown0 : (w.alloc (.cells #[] 5)).ownsRow w.heap.size 5 1 (.slice (some ⟨w.heap.size, 0, none⟩) 0 0) 0 [] := own_lit w [] (Nat.le_refl _) (by simp)
    go_wp2_with (at_builtin; go_must (refine wpList_app rfl (.tmp 21) (.tmp 22) byteElem rfl w.heap.size [] rfl hown0 rfl (bv l) (hr.alloc (Nat.le_refl _) _) (bv_one l) (by unfold maxLen; omega) (by omega) (by simp) ?_; intro A3 c3 w3 hown3 hg3 _; rw [Nat.zero_add, List.nil_append] at hown3; obtain ⟨g, rfl, hbg, hlt⟩ := own_at hown3 h0; have hb3 : Below w.heap.size w w3 := below_app ((Below.refl _ _).alloc (Nat.le_refl _) _) hown0 hg3 (by simp); have hck := hown3.cellAt k (by omega); rw [bv_get l k hkl] at hck; have hfk := hown3.frozenAt k; clear hown0 hg3))
    have hown4 := (hown3.stored k (.int .u8 (cb.toNat : Int))).1
    have hb4 : Below w.heap.size w (w3.setCell ⟨g, k, none⟩ (.int .u8 (cb.toNat : Int))) := hb3.setCell hbg _
    rw [bv_set] at hown4
    clear hck hfk hown3 hb3
    generalize w3.setCell ⟨g, k, none⟩ (.int .u8 (cb.toNat : Int)) = w4 at hown4 hb4 ⊢
    have hr4 := (hr.below hb4).drew
    have hr5 := (Rd.of_own hown4).drew
    have hcb := hr4.byte hkl
    have hiff := sums_iff l k hkl cb
    clear hown4
    have hfin : (((sumN l : Int) == (sumN (l.set k cb) : Int)) == (((l[k]).toNat : Int) == (cb.toNat : Int))) = true := by
      by_cases hc : l[k] = cb
      · have := hiff.2 hc
        rw [← this, hc]; simp
      · have h1 : ¬ sumN l = sumN (l.set k cb) := fun e => hc (hiff.1 e)
        have h2 : ¬ (l[k]).toNat = cb.toNat := fun e => hc (UInt8.toNat_inj.1 e)
        have e1 : ((sumN l : Int) == (sumN (l.set k cb) : Int)) = false := by simp only [beq_eq_false_iff_ne, ne_eq]; omega
        have e2 : (((l[k]).toNat : Int) == (cb.toNat : Int)) = false := by simp only [beq_eq_false_iff_ne, ne_eq]; omega
        rw [e1, e2]; rfl
    clear hiff
    -- REGION
    refine wp_region_sched [(0, true), (2, true), (5, true), (6, true), (7, true), (8, true), (9, true), (10, true), (1, false), (3, false), (4, true), (11, true), (12, true), (13, false), (14, true), (15, true)] (by kernel_rfl) (by kernel_rfl) (fun _ _ d _ _ h => by cases d <;> exact h) ?_
    refine sread (v := ?vs0) rfl rfl ?hs0 ?rs0
    case hs0 => (intro W hW; first | (go_simp; done) | (go_simp; with_reducible rfl))
    simp only [Act.put, List.setIfInBounds_toArray, List.set_cons_zero, List.set_cons_succ]
    refine sread (v := ?vs2) rfl rfl ?hs2 ?rs2
    case hs2 => (intro W hW; first | (go_simp; done) | (go_simp; with_reducible rfl))
    simp only [Act.put, List.setIfInBounds_toArray, List.set_cons_zero, List.set_cons_succ]
    refine sread (v := ?vs5) rfl rfl ?hs5 ?rs5
    case hs5 => (intro W hW; first | (go_simp; done) | (go_simp; with_reducible rfl))
    simp only [Act.put, List.setIfInBounds_toArray, List.set_cons_zero, List.set_cons_succ]
    refine sread (v := ?vs6) rfl rfl ?hs6 ?rs6
    case hs6 => (intro W hW; first | (go_simp; done) | (go_simp; with_reducible rfl))
    simp only [Act.put, List.setIfInBounds_toArray, List.set_cons_zero, List.set_cons_succ]
    refine sread (v := ?vs7) rfl rfl ?hs7 ?rs7
    case hs7 => (intro W hW; first | (go_simp; done) | (go_simp; with_reducible rfl))
    simp only [Act.put, List.setIfInBounds_toArray, List.set_cons_zero, List.set_cons_succ]
    refine sread (v := ?vs8) rfl rfl ?hs8 ?rs8
    case hs8 => (intro W hW; have hc := (hW.out.cell (p := ⟨b, off + k, none⟩) (by have := hb4.size; simp; omega)).trans hcb; go_simp; with_reducible rfl)
    simp only [Act.put, List.setIfInBounds_toArray, List.set_cons_zero, List.set_cons_succ]
    refine sread (v := ?vs9) rfl rfl ?hs9 ?rs9
    case hs9 => (intro W hW; first | (go_simp; done) | (go_simp; with_reducible rfl))
    simp only [Act.put, List.setIfInBounds_toArray, List.set_cons_zero, List.set_cons_succ]
    refine sread (v := ?vs10) rfl rfl ?hs10 ?rs10
    case hs10 => (intro W hW; first | (go_simp; done) | (go_simp; with_reducible rfl))
    simp only [Act.put, List.setIfInBounds_toArray, List.set_cons_zero, List.set_cons_succ]
    refine scall rfl rfl (fun K hK => ?_)
    go_simp
    refine (sum_any _ l.length c' w.heap.size l _ hr4 (by omega)).mono ?_; rintro e w' ⟨rfl, rfl⟩
    go_wp2_with fail
    refine hK.out _ _ ?gs1 ?ks1
    case gs1 => exact Grow.refl _
    clear hK K
    try simp only [Act.put, List.setIfInBounds_toArray, List.set_cons_zero, List.set_cons_succ]
    refine scall rfl rfl (fun K hK => ?_)
    go_simp
    refine (sum_any _ l.length c3 _ (l.set k cb) _ hr5 (by omega)).mono ?_; rintro e w' ⟨rfl, rfl⟩
    go_wp2_with fail
    refine hK.out _ _ ?gs3 ?ks3
    case gs3 => exact Grow.refl _
    clear hK K
    try simp only [Act.put, List.setIfInBounds_toArray, List.set_cons_zero, List.set_cons_succ]
    refine sread (v := ?vs4) rfl rfl ?hs4 ?rs4
    case hs4 => (intro W hW; first | (go_simp; done) | (go_simp; with_reducible rfl))
    simp only [Act.put, List.setIfInBounds_toArray, List.set_cons_zero, List.set_cons_succ]
    refine sread (v := ?vs11) rfl rfl ?hs11 ?rs11
    case hs11 => (intro W hW; first | (go_simp; done) | (go_simp; with_reducible rfl))
    simp only [Act.put, List.setIfInBounds_toArray, List.set_cons_zero, List.set_cons_succ]
    refine sread (v := ?vs12) rfl rfl ?hs12 ?rs12
    case hs12 => (intro W hW; first | (go_simp; done) | (go_simp; with_reducible rfl))
    simp only [Act.put, List.setIfInBounds_toArray, List.set_cons_zero, List.set_cons_succ]
    refine scall rfl rfl (fun K hK => ?_)
    go_simp
    refine (lives_any _).mono ?_; rintro e w5 ⟨rfl, hb5⟩
    go_wp2_with fail
    refine hK.out _ _ ?gs13 ?ks13
    case gs13 => exact hb5
    clear hK K
    try simp only [Act.put, List.setIfInBounds_toArray, List.set_cons_zero, List.set_cons_succ]
    refine sread (v := ?vs14) rfl rfl ?hs14 ?rs14
    case hs14 => (intro W hW; first | (go_simp; done) | (go_simp; with_reducible rfl))
    simp only [Act.put, List.setIfInBounds_toArray, List.set_cons_zero, List.set_cons_succ]
    refine sread (v := ?vs15) rfl rfl ?hs15 ?rs15
    case hs15 => (intro W hW; first | (go_simp; done) | (go_simp; with_reducible rfl))
    simp only [Act.put, List.setIfInBounds_toArray, List.set_cons_zero, List.set_cons_succ]
    refine sdone ?_
    go_wp2_with fail
    go_ret
    exact ⟨rfl, hb4.drew.trans (hb5.mono hb4.size)⟩
end Go.Proofs.Ytmejkfhjkafmlaa.octetsSums
