/- The contract of the reference's Parse, whole. -/
import Derived.Test.YtpodniljpinigaaDoorValRParse
import Derived.Test.YtpodniljpinigaaDoorSchedB
namespace Go.Proofs.YtpodniljpinigaaDoor.V
open Go.RowKit O

theorem RB.set {w W : World} {done done' : List UInt8} (h : RB w done W) : RB w done' (W.setCell ⟨w.heap.size + 1, 2, none⟩ (.string ⟨done'.toArray⟩)) :=
  ⟨(Below.heap_setCell _ _ _ _ (show w.heap.size ≠ w.heap.size + 1 by omega)).trans h.1, by have := h.2.1; simp [World.setCell, Array.getElem?_modify, this], h.2.2.setCell (by simp) _⟩
theorem RB.drew {w W : World} {done : List UInt8} (h : RB w done W) : RB w done W.drew := ⟨h.1, h.2.1, h.2.2.drew⟩
theorem RB.next {w W W' : World} {done : List UInt8} (h : RB w done W) (b : Below W.heap.size W W') : RB w done W' := ⟨box_next h.1 b, box_next h.2.1 b, bthen h.2.2 b⟩
theorem KB.set {bs : List Nat} {w W : World} {p : Addr} {u : Value} (h : KB bs w W) (hne : ∀ b ∈ bs, b ≠ p.block) : KB bs w (W.setCell p u) := fun b hb => (Below.heap_setCell _ _ _ _ (hne b hb)).trans (h b hb)
theorem unqR_len : ∀ l : List UInt8, (unqR l).length ≤ l.length
  | [] => by simp [unqR]
  | [c] => by simp [unqR]
  | c :: d :: r => by
    have h1 := unqR_len r
    have h2 := unqR_len (d :: r)
    unfold unqR
    split
    · simp; omega
    · simp at h2 ⊢; omega
set_option maxHeartbeats 4000000 in
set_option maxRecDepth 100000 in
theorem rparse_quote (s : List UInt8) (w : World) (hs : s.length ≤ 1000000) (h1 : (s == [116, 114, 117, 101]) = false) (h2 : (s == [102, 97, 108, 115, 101]) = false) (h3 : 2 ≤ s.length ∧ s.head?.map (·.toNat) = some 34) :
    Calls Tryd.prog 31 #[.string ⟨s.toArray⟩] w (RetR s w) := by
  have hsz : (ByteArray.mk s.toArray).size = s.length := by simp [ByteArray.size]
  have hpr : parseR s = if fitP s ⟨3, 0, unqR (mid s)⟩ then some ⟨3, 0, unqR (mid s)⟩ else none := by
    unfold parseR
    rw [if_neg (by simpa using h1), if_neg (by simpa using h2), if_pos h3]
  have hml := mid_len s
  have Hhpr := Lib.hid hpr; clear hpr
  have Hhml := Lib.hid hml; clear hml
  have hA : decide ((s.length : Int) ≥ 2) = true := by simp; omega
  have hlt0 : 0 < s.length := by omega
  obtain ⟨c, hg0⟩ : ∃ c, s[0] = c := ⟨_, rfl⟩
  have hc0 := ba_at s 0 hlt0 hg0
  have q34 : ((c.toNat : Int) == 34) = true := by
    have := h3.2
    rw [List.head?_eq_getElem?, List.getElem?_eq_getElem hlt0, hg0] at this
    simp at this ⊢
    omega
  obtain ⟨h3, _⟩ := h3
  clear hg0
  go_enter Tryd.func31, Tryd.ntmps31
  go_wp2_with fail
  go_loopw [6] (fun i wr => ∃ (k : Nat) (done : List UInt8), i = .int .i64 ((k : Int) + 1) ∧ RB w done wr ∧ Hid (unqR (mid s) = done ++ unqR ((mid s).drop k)) ∧ k ≤ (mid s).length ∧ done.length ≤ k) (fun i _ => s.length + 2 - (intOf i).toNat)
  case atStart => exact ⟨0, [], rfl, RB.start w, Lib.hid (by simp), by omega, by simp⟩
  case round =>
    obtain ⟨k, done, rfl, hR, H, hk, hdl⟩ := hrel
    obtain ⟨x0, x1, x2⟩ := cells3 hR.2.1
    have f2 : wr.frozen? ⟨w.heap.size + 1, 2, none⟩ = false := Lib.frozen_of_heap hR.2.1 2
    have HR := Lib.hid hR; clear hR
    have hdz : (ByteArray.mk done.toArray).size = done.length := by simp [ByteArray.size]
    by_cases hlt : k < (mid s).length
    · have hk1 : k + 1 < s.length := by have := Hhml.out; omega
      have hlt' : decide ((k : Int) + 1 < (s.length : Int) - 1) = true := by have := Hhml.out; simp; omega
      have hg := mid_get hlt hk1
      obtain ⟨d, hd⟩ : ∃ d, s[k + 1] = d := ⟨_, rfl⟩
      rw [hd] at hg
      have hx := ba_at s (k + 1) hk1 hd
      have hki : (k : Int) + 1 < (s.length : Int) := by omega
      have hnat : ((k : Int) + 1).toNat = k + 1 := by omega
      have hlm : done.length + 1 ≤ 9223372036854775807 := by have := Hhml.out; omega
      by_cases h92 : d.toNat = 92 ∧ k + 1 < (mid s).length
      · obtain ⟨h92, hlt2⟩ := h92
        have hk2 : k + 2 < s.length := by have := Hhml.out; omega
        obtain ⟨d2, hd2⟩ : ∃ d, s[k + 2] = d := ⟨_, rfl⟩
        have hg2 := mid_get hlt2 (by omega)
        rw [hd2] at hg2
        have hst := Lib.hid (unqR_step2 hlt2 (by rw [hg]; exact h92) H.out)
        rw [hg2] at hst
        have hex := esc_ba hk2 hd2
        have hlt2' : decide ((k : Int) + 1 + 1 < (s.length : Int) - 1) = true := by have := Hhml.out; simp; omega
        have g92 : ((d.toNat : Int) == 92) = true := by simp; omega
        have hn2 : ((k : Int) + 1 + 1).toNat = k + 2 := by omega
        have hn3 : ((k : Int) + 1 + 1 + 1).toNat = k + 2 + 1 := by omega
        have i1 : (k : Int) + 1 + 1 + 1 ≤ (s.length : Int) := by omega
        clear h92 hg hg2 hd hd2 H
        go_wp2_with fail
        go_region
        go_wp2_with fail
        go_roundw
        case rel => exact ⟨k + 2, done ++ [d2], by go_num, by rw [ba_append]; first | exact HR.out.drew.set | exact HR.out.set.drew, hst, by omega, by simp; omega⟩
        case measure => simp [intOf]; omega
      · have hst := Lib.hid (unqR_step1 hlt (by rw [hg]; exact h92) H.out)
        rw [hg] at hst
        have hex := esc_ba hk1 hd
        have hn3 : ((k : Int) + 1 + 1).toNat = k + 1 + 1 := by omega
        have i1 : (k : Int) + 1 + 1 ≤ (s.length : Int) := by omega
        have hor : ((d.toNat : Int) == 92) = false ∨ (((d.toNat : Int) == 92) = true ∧ decide ((k : Int) + 1 + 1 < (s.length : Int) - 1) = false) := by
          have := Hhml.out
          by_cases e : d.toNat = 92
          · right
            have : ¬ k + 1 < (mid s).length := fun h => h92 ⟨e, h⟩
            simp; omega
          · left; simp; omega
        clear h92 hg hd H
        rcases hor with g92 | ⟨g92, g93⟩
        all_goals
          go_wp2_with fail
          go_region
          go_wp2_with fail
          go_roundw
          case rel => exact ⟨k + 1, done ++ [d], by go_num, by rw [ba_append]; first | exact HR.out.drew.set | exact HR.out.set.drew, hst, by omega, by simp; omega⟩
          case measure => simp [intOf]; omega
    · have hlt' : decide ((k : Int) + 1 < (s.length : Int) - 1) = false := by have := Hhml.out; simp; omega
      have hen := Lib.hid (unqR_end (by omega) H.out)
      have hul := unqR_len (mid s)
      have hdl2 : done.length ≤ 1000000 := by have := Hhml.out; rw [← hen.out]; omega
      clear H hul
      go_wp2_with fail
      have hltb : w.heap.size + 1 < wr.heap.size := (Array.getElem?_eq_some_iff.1 HR.out.2.1).1
      refine wp_region_schedB [w.heap.size + 1] [(0, true), (1, true), (2, false), (3, true), (4, true), (6, true), (5, false), (7, true), (8, true), (9, false), (10, true)] (by kernel_rfl) (by kernel_rfl) (fun _ _ d _ _ h => by cases d <;> exact h) ?_
      refine bwith (fun W hW => (cells3 (hW.one (show wr.drew.heap[w.heap.size + 1]? = _ from HR.out.2.1)))) (fun q => ?_)
      repeat (first | (refine sreadxB rfl rfl ?_; apply Exists.intro; apply And.intro; (· (intro W hW; first | (go_simp; done) | (go_simp; with_reducible rfl) | (go_simp; rw [if_neg (by omega)]; done) | (go_simp; rw [if_neg (by omega)]; with_reducible rfl))); simp only [Act.put, List.setIfInBounds_toArray, List.set_cons_zero, List.set_cons_succ]) | (refine bskip rfl rfl ?_; simp only [Act.put, List.setIfInBounds_toArray, List.set_cons_zero, List.set_cons_succ]))
      clear x0 x1 x2 f2
      cases hr : right ⟨3, 0, done⟩
      · have HP : Hid (parseR s = none) := Lib.hid (by rw [Hhpr.out, hen.out, if_neg (by rw [fitP, hr]; simp)])
        refine bcall rfl rfl (fun K hK => ?_)
        go_simp
        refine (rright_any ⟨3, 0, done⟩ _ (show done.length ≤ _ by omega)).mono ?_; rintro e w3 ⟨rfl, b3⟩; rw [hr]
        go_wp2_with fail
        refine hK.out _ _ (by exact KB.of_below b3 (by simpa using hltb)) ?_
        clear hK K
        try simp only [Act.put, List.setIfInBounds_toArray, List.set_cons_zero, List.set_cons_succ]
        have A3 := HR.out.drew.next b3
        obtain ⟨f0, f1, f2⟩ := cells3 A3.1
        have z0 : w3.frozen? ⟨w.heap.size, 0, none⟩ = false := Lib.frozen_of_heap A3.1 0
        have z1 : w3.frozen? ⟨w.heap.size, 1, none⟩ = false := Lib.frozen_of_heap A3.1 1
        have z2 : w3.frozen? ⟨w.heap.size, 2, none⟩ = false := Lib.frozen_of_heap A3.1 2
        have HB3 := A3.2.2
        clear A3
        try clear q
        repeat (first | (refine sreadxB rfl rfl ?_; apply Exists.intro; apply And.intro; (· (intro W hW; first | (go_simp; done) | (go_simp; with_reducible rfl) | (go_simp; rw [if_neg (by omega)]; done) | (go_simp; rw [if_neg (by omega)]; with_reducible rfl))); simp only [Act.put, List.setIfInBounds_toArray, List.set_cons_zero, List.set_cons_succ]) | (refine bskip rfl rfl ?_; simp only [Act.put, List.setIfInBounds_toArray, List.set_cons_zero, List.set_cons_succ]))
        refine bcall rfl rfl (fun K hK => ?_)
        go_simp
        refine hK.out _ _ (KB.set (KB.set (KB.set (KB.refl _ _) (by simp)) (by simp)) (by simp)) ?_
        clear hK K
        try simp only [Act.put, List.setIfInBounds_toArray, List.set_cons_zero, List.set_cons_succ]
        repeat (first | (refine sreadxB rfl rfl ?_; apply Exists.intro; apply And.intro; (· (intro W hW; first | (go_simp; done) | (go_simp; with_reducible rfl) | (go_simp; rw [if_neg (by omega)]; done) | (go_simp; rw [if_neg (by omega)]; with_reducible rfl))); simp only [Act.put, List.setIfInBounds_toArray, List.set_cons_zero, List.set_cons_succ]) | (refine bskip rfl rfl ?_; simp only [Act.put, List.setIfInBounds_toArray, List.set_cons_zero, List.set_cons_succ]))
        refine bdone ?_
        go_wp2_with fail
        refine bodyPost_ret (v := .tuple #[vv ⟨3, 0, done⟩, .bool false]) (by simp [results, Tryd.results31, go_sem, vv, f0, f1, f2]) rfl ?_
        refine ⟨_, by rw [HP.out]; rfl, (fun v h => by rw [HP.out] at h; cases h), ?_⟩
        repeat (first | (with_reducible exact Below.refl _ _) | (with_reducible assumption) | refine Below.setCell ?_ (by simp <;> omega) _ | refine Below.alloc ?_ (by simp <;> omega) _ | refine Below.drew ?_)
      · cases hp : (printV ⟨3, 0, done⟩ == s)
        · have HP : Hid (parseR s = none) := Lib.hid (by rw [Hhpr.out, hen.out, if_neg (by rw [fitP, hr, hp]; simp)])
          refine bcall rfl rfl (fun K hK => ?_)
          go_simp
          refine (rright_any ⟨3, 0, done⟩ _ (show done.length ≤ _ by omega)).mono ?_; rintro e w2 ⟨rfl, b2⟩; rw [hr]
          go_wp2_with fail
          refine hK.out _ _ (by exact KB.of_below b2 (by simpa using hltb)) ?_
          clear hK K
          try simp only [Act.put, List.setIfInBounds_toArray, List.set_cons_zero, List.set_cons_succ]
          have hsz2 := b2.size
          refine bwith (fun W hW => (cells3 (hW.one (HR.out.drew.next b2).2.1))) (fun q => ?_)
          repeat (first | (refine sreadxB rfl rfl ?_; apply Exists.intro; apply And.intro; (· (intro W hW; first | (go_simp; done) | (go_simp; with_reducible rfl) | (go_simp; rw [if_neg (by omega)]; done) | (go_simp; rw [if_neg (by omega)]; with_reducible rfl))); simp only [Act.put, List.setIfInBounds_toArray, List.set_cons_zero, List.set_cons_succ]) | (refine bskip rfl rfl ?_; simp only [Act.put, List.setIfInBounds_toArray, List.set_cons_zero, List.set_cons_succ]))
          refine bcall rfl rfl (fun K hK => ?_)
          go_simp
          refine (rprint_any ⟨3, 0, done⟩ _ (show done.length ≤ _ by omega) (by simp) (by simp)).mono ?_; rintro e w3 ⟨rfl, b3⟩
          go_wp2_with fail
          refine hK.out _ _ (by exact KB.of_below b3 (by simp; simp at hsz2; omega)) ?_
          clear hK K
          try simp only [Act.put, List.setIfInBounds_toArray, List.set_cons_zero, List.set_cons_succ]
          have A3 := (HR.out.drew.next b2).next b3
          obtain ⟨f0, f1, f2⟩ := cells3 A3.1
          have z0 : w3.frozen? ⟨w.heap.size, 0, none⟩ = false := Lib.frozen_of_heap A3.1 0
          have z1 : w3.frozen? ⟨w.heap.size, 1, none⟩ = false := Lib.frozen_of_heap A3.1 1
          have z2 : w3.frozen? ⟨w.heap.size, 2, none⟩ = false := Lib.frozen_of_heap A3.1 2
          have HB3 := A3.2.2
          clear A3
          try clear q
          repeat (first | (refine sreadxB rfl rfl ?_; apply Exists.intro; apply And.intro; (· (intro W hW; first | (go_simp; done) | (go_simp; with_reducible rfl) | (go_simp; rw [if_neg (by omega)]; done) | (go_simp; rw [if_neg (by omega)]; with_reducible rfl))); simp only [Act.put, List.setIfInBounds_toArray, List.set_cons_zero, List.set_cons_succ]) | (refine bskip rfl rfl ?_; simp only [Act.put, List.setIfInBounds_toArray, List.set_cons_zero, List.set_cons_succ]))
          refine bcall rfl rfl (fun K hK => ?_)
          go_simp
          refine hK.out _ _ (KB.set (KB.set (KB.set (KB.refl _ _) (by simp)) (by simp)) (by simp)) ?_
          clear hK K
          try simp only [Act.put, List.setIfInBounds_toArray, List.set_cons_zero, List.set_cons_succ]
          repeat (first | (refine sreadxB rfl rfl ?_; apply Exists.intro; apply And.intro; (· (intro W hW; first | (go_simp; done) | (go_simp; with_reducible rfl) | (go_simp; rw [if_neg (by omega)]; done) | (go_simp; rw [if_neg (by omega)]; with_reducible rfl))); simp only [Act.put, List.setIfInBounds_toArray, List.set_cons_zero, List.set_cons_succ]) | (refine bskip rfl rfl ?_; simp only [Act.put, List.setIfInBounds_toArray, List.set_cons_zero, List.set_cons_succ]))
          refine bdone ?_
          go_wp2_with fail
          refine bodyPost_ret (v := .tuple #[vv ⟨3, 0, done⟩, .bool false]) (by simp [results, Tryd.results31, go_sem, vv, f0, f1, f2]) rfl ?_
          refine ⟨_, by rw [HP.out]; rfl, (fun v h => by rw [HP.out] at h; cases h), ?_⟩
          repeat (first | (with_reducible exact Below.refl _ _) | (with_reducible assumption) | refine Below.setCell ?_ (by simp <;> omega) _ | refine Below.alloc ?_ (by simp <;> omega) _ | refine Below.drew ?_)
        · have HP : Hid (parseR s = some ⟨3, 0, done⟩) := Lib.hid (by rw [Hhpr.out, hen.out, if_pos (by rw [fitP, hr, hp]; rfl)])
          refine bcall rfl rfl (fun K hK => ?_)
          go_simp
          refine (rright_any ⟨3, 0, done⟩ _ (show done.length ≤ _ by omega)).mono ?_; rintro e w2 ⟨rfl, b2⟩; rw [hr]
          go_wp2_with fail
          refine hK.out _ _ (by exact KB.of_below b2 (by simpa using hltb)) ?_
          clear hK K
          try simp only [Act.put, List.setIfInBounds_toArray, List.set_cons_zero, List.set_cons_succ]
          have hsz2 := b2.size
          refine bwith (fun W hW => (cells3 (hW.one (HR.out.drew.next b2).2.1))) (fun q => ?_)
          repeat (first | (refine sreadxB rfl rfl ?_; apply Exists.intro; apply And.intro; (· (intro W hW; first | (go_simp; done) | (go_simp; with_reducible rfl) | (go_simp; rw [if_neg (by omega)]; done) | (go_simp; rw [if_neg (by omega)]; with_reducible rfl))); simp only [Act.put, List.setIfInBounds_toArray, List.set_cons_zero, List.set_cons_succ]) | (refine bskip rfl rfl ?_; simp only [Act.put, List.setIfInBounds_toArray, List.set_cons_zero, List.set_cons_succ]))
          refine bcall rfl rfl (fun K hK => ?_)
          go_simp
          refine (rprint_any ⟨3, 0, done⟩ _ (show done.length ≤ _ by omega) (by simp) (by simp)).mono ?_; rintro e w3 ⟨rfl, b3⟩
          go_wp2_with fail
          refine hK.out _ _ (by exact KB.of_below b3 (by simp; simp at hsz2; omega)) ?_
          clear hK K
          try simp only [Act.put, List.setIfInBounds_toArray, List.set_cons_zero, List.set_cons_succ]
          have A3 := (HR.out.drew.next b2).next b3
          obtain ⟨f0, f1, f2⟩ := cells3 A3.1
          have z0 : w3.frozen? ⟨w.heap.size, 0, none⟩ = false := Lib.frozen_of_heap A3.1 0
          have z1 : w3.frozen? ⟨w.heap.size, 1, none⟩ = false := Lib.frozen_of_heap A3.1 1
          have z2 : w3.frozen? ⟨w.heap.size, 2, none⟩ = false := Lib.frozen_of_heap A3.1 2
          have HB3 := A3.2.2
          clear A3
          try clear q
          repeat (first | (refine sreadxB rfl rfl ?_; apply Exists.intro; apply And.intro; (· (intro W hW; first | (go_simp; done) | (go_simp; with_reducible rfl) | (go_simp; rw [if_neg (by omega)]; done) | (go_simp; rw [if_neg (by omega)]; with_reducible rfl))); simp only [Act.put, List.setIfInBounds_toArray, List.set_cons_zero, List.set_cons_succ]) | (refine bskip rfl rfl ?_; simp only [Act.put, List.setIfInBounds_toArray, List.set_cons_zero, List.set_cons_succ]))
          refine bcall rfl rfl (fun K hK => ?_)
          go_simp
          refine hK.out _ _ (KB.set (KB.set (KB.set (KB.refl _ _) (by simp)) (by simp)) (by simp)) ?_
          clear hK K
          try simp only [Act.put, List.setIfInBounds_toArray, List.set_cons_zero, List.set_cons_succ]
          repeat (first | (refine sreadxB rfl rfl ?_; apply Exists.intro; apply And.intro; (· (intro W hW; first | (go_simp; done) | (go_simp; with_reducible rfl) | (go_simp; rw [if_neg (by omega)]; done) | (go_simp; rw [if_neg (by omega)]; with_reducible rfl))); simp only [Act.put, List.setIfInBounds_toArray, List.set_cons_zero, List.set_cons_succ]) | (refine bskip rfl rfl ?_; simp only [Act.put, List.setIfInBounds_toArray, List.set_cons_zero, List.set_cons_succ]))
          refine bdone ?_
          go_wp2_with fail
          refine bodyPost_ret (v := .tuple #[vv ⟨3, 0, done⟩, .bool true]) (by simp [results, Tryd.results31, go_sem, vv, f0, f1, f2]) rfl ?_
          refine ⟨_, by rw [HP.out]; rfl, (fun v h => by rw [HP.out] at h; injection h with h), ?_⟩
          repeat (first | (with_reducible exact Below.refl _ _) | (with_reducible assumption) | refine Below.setCell ?_ (by simp <;> omega) _ | refine Below.alloc ?_ (by simp <;> omega) _ | refine Below.drew ?_)
theorem rparse_any (s : List UInt8) (w : World) (hs : s.length ≤ 1000000) : Calls Tryd.prog 31 #[.string ⟨s.toArray⟩] w (RetR s w) := by
  cases h1 : (s == [116, 114, 117, 101])
  · cases h2 : (s == [102, 97, 108, 115, 101])
    · by_cases h3 : 2 ≤ s.length ∧ s.head?.map (·.toNat) = some 34
      · exact rparse_quote s w hs h1 h2 h3
      · exact rparse_num s w hs h1 h2 h3
    · have : s = [102, 97, 108, 115, 101] := by simpa using h2
      subst this
      exact rparse_false w
  · have : s = [116, 114, 117, 101] := by simpa using h1
    subst this
    exact rparse_true w
end Go.Proofs.YtpodniljpinigaaDoor.V
