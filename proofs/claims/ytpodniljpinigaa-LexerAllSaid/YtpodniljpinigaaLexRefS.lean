/- The contracts of the reference's kind and sign (layer 8). -/
import Derived.Test.YtpodniljpinigaaLexAll2
namespace Go.Proofs.Ytpodniljpinigaa.X
open Go.RowKit O V S

/-- The kind of a byte. -/
def kindN (c : UInt8) : Nat := if smallC c = true then 1 else if digitC c = true then 2 else if c.toNat = 95 then 3 else if c.toNat = 34 then 4 else if blankC c = true then 5 else if c.toNat = 35 then 6 else 0
theorem kind_lt (c : UInt8) : kindN c ≤ 6 := by
  unfold kindN
  repeat' split
  all_goals omega
theorem kind5 (c : UInt8) : kindN c = 5 ↔ blankC c = true := by
  unfold kindN smallC digitC blankC
  simp only [Bool.or_eq_true, Bool.and_eq_true, decide_eq_true_eq]
  repeat' split
  all_goals omega
theorem kind6 (c : UInt8) : kindN c = 6 ↔ c.toNat = 35 := by
  unfold kindN smallC digitC blankC
  simp only [Bool.or_eq_true, Bool.and_eq_true, decide_eq_true_eq]
  repeat' split
  all_goals omega
theorem kind_word (c : UInt8) : wordC c = (decide (1 ≤ kindN c) && decide (kindN c ≤ 3)) := by
  rw [Bool.eq_iff_iff]
  unfold wordC kindN smallC digitC blankC
  simp only [Bool.or_eq_true, Bool.and_eq_true, decide_eq_true_eq]
  repeat' split
  all_goals omega
theorem kind2 (c : UInt8) : digitC c = decide (kindN c = 2) := by
  rw [Bool.eq_iff_iff]
  unfold kindN smallC digitC blankC
  simp only [Bool.or_eq_true, Bool.and_eq_true, decide_eq_true_eq]
  repeat' split
  all_goals omega
theorem rkind_small (c : UInt8) (w : World) (h : smallC c = true) : Calls Try.prog 39 #[.int .u8 (c.toNat : Int)] w fun e w' => e = .returned (.int .i64 1) ∧ w = w' := by
  simp only [smallC, Bool.and_eq_true, decide_eq_true_eq] at h
  obtain ⟨h1, h2⟩ := h
  have d1 : decide ((c.toNat : Int) ≥ 97) = true := by simp; omega
  have d2 : decide ((c.toNat : Int) ≤ 122) = true := by simp; omega
  clear h1 h2
  go_enter Try.func39, Try.ntmps39
  go_wp2_with fail
  go_ret
  exact ⟨rfl, rfl⟩
theorem rkind_any (c : UInt8) (w : World) : Calls Try.prog 39 #[.int .u8 (c.toNat : Int)] w fun e w' => e = .returned (.int .i64 (kindN c)) ∧ w = w' := by
  by_cases h1 : smallC c = true
  · have : kindN c = 1 := by unfold kindN; rw [if_pos h1]
    rw [this]
    exact rkind_small c w h1
  have HK : Hid (kindN c = if digitC c = true then 2 else if c.toNat = 95 then 3 else if c.toNat = 34 then 4 else if blankC c = true then 5 else if c.toNat = 35 then 6 else 0) := Lib.hid (by unfold kindN; rw [if_neg h1])
  obtain ⟨n, hn⟩ : ∃ n : Nat, c.toNat = n := ⟨_, rfl⟩
  have hlt := c.toNat_lt
  have hs : ¬ (97 ≤ n ∧ n ≤ 122) := by
    intro h; apply h1; simp only [smallC, Bool.and_eq_true, decide_eq_true_eq]; omega
  have hd : digitC c = (decide (48 ≤ n) && decide (n ≤ 57)) := by unfold digitC; rw [hn]
  have hb : blankC c = (decide (n = 32) || (decide (n = 9) || (decide (n = 10) || decide (n = 13)))) := by unfold blankC; rw [hn]
  rw [hd, hb, hn] at HK
  rw [hn]
  clear h1 hd hb hn
  generalize kindN c = K at *
  go_enter Try.func39, Try.ntmps39
  go_wp2_with fail
  all_goals
    go_ret
    refine ⟨?_, rfl⟩
    have := HK.out
    simp only [Bool.and_eq_true, Bool.or_eq_true, decide_eq_true_eq] at this
    simp only [beq_eq_false_iff_ne, beq_iff_eq, ne_eq] at *
    refine ret_int ?_
    clear HK
    repeat' split at this
    all_goals omega
def rpairs : List (UInt8 × UInt8) := [(38, 38), (124, 124), (61, 61), (33, 61), (60, 61), (43, 43)]
def hitP (c d : UInt8) (p : UInt8 × UInt8) : Bool := c == p.1 && d == p.2
theorem two_rpairs (c d : UInt8) : two c.toNat d.toNat = rpairs.any (hitP c d) := by
  have h : ∀ x y : UInt8, (x == y) = decide (x.toNat = y.toNat) := fun x y => by
    rw [Bool.eq_iff_iff, beq_iff_eq, decide_eq_true_eq]; exact ⟨fun h => by rw [h], fun h => UInt8.toNat_inj.1 h⟩
  unfold rpairs two hitP
  simp only [List.any_cons, List.any_nil, Bool.or_false, h]
  rfl
theorem sub2 (s : List UInt8) (i : Nat) (h : i + 1 < s.length) {c d : UInt8} (hc : s[i] = c) (hd : s[i + 1] = d) : (ByteArray.mk s.toArray).extract i (i + 2) = ⟨#[c, d]⟩ := by
  rw [cut_at s i 2 (i + 2) rfl]
  have : (s.drop i).take 2 = [c, d] := by
    rw [List.drop_eq_getElem_cons (by omega), List.drop_eq_getElem_cons (by omega : i + 1 < s.length), hc, hd]; rfl
  rw [this]
theorem sign_at2 (c d : UInt8) (r : List UInt8) : signL (c :: d :: r) = if rpairs.any (hitP c d) = true then 2 else if signB.contains c = true then 1 else 0 := by
  rw [← two_rpairs, ← one_mem]; rfl
theorem sign_at1 (c : UInt8) : signL [c] = if signB.contains c = true then 1 else 0 := by
  rw [← one_mem]; rfl
theorem pairs6 (wr : World) (g : Nat) (h : wr.heap[g]? = some (.cells #[.string ⟨#[38, 38]⟩, .string ⟨#[124, 124]⟩, .string ⟨#[61, 61]⟩, .string ⟨#[33, 61]⟩, .string ⟨#[60, 61]⟩, .string ⟨#[43, 43]⟩] 9 (0, 0))) :
    (wr.cell? ⟨g, 0, none⟩ = some (.string ⟨#[38, 38]⟩) ∧ wr.cell? ⟨g, 1, none⟩ = some (.string ⟨#[124, 124]⟩) ∧ wr.cell? ⟨g, 2, none⟩ = some (.string ⟨#[61, 61]⟩)) ∧ wr.cell? ⟨g, 3, none⟩ = some (.string ⟨#[33, 61]⟩) ∧ wr.cell? ⟨g, 4, none⟩ = some (.string ⟨#[60, 61]⟩) ∧ wr.cell? ⟨g, 5, none⟩ = some (.string ⟨#[43, 43]⟩) := by
  refine ⟨⟨?_, ?_, ?_⟩, ?_, ?_, ?_⟩ <;> (rw [Lib.cell_of_heap h]; rfl)
theorem sign_end (c : UInt8) {k : Nat} (hk : k < signB.length) (h : (signB.take k).contains c = false) : (signB.take (k + 1)).contains c = (signB[k] == c) := by
  rw [List.take_succ_eq_append_getElem hk]
  have : ∀ (a : List UInt8) (x : UInt8), a.contains c = false → (a ++ [x]).contains c = (x == c) := by
    intro a x ha
    rw [Bool.eq_iff_iff]
    simp only [List.contains_eq_mem, decide_eq_false_iff_not] at ha
    simp [ha]
    exact eq_comm
  exact this _ _ h
/-- The second loop of sign: is the byte one of the signs of one byte? -/
def sgnT : ByteArray := ⟨#[123, 125, 40, 41, 91, 93, 59, 44, 46, 61, 60, 43, 45, 42, 47, 37, 33]⟩
set_option maxHeartbeats 2000000 in
set_option maxRecDepth 100000 in
theorem rsign_any (s : List UInt8) (i : Nat) (w : World) (hs : s.length ≤ 20000) (hin : i < s.length) : Calls Try.prog 66 #[.string ⟨s.toArray⟩, .int .i64 (i : Int)] w fun e w' => e = .returned (.int .i64 (signL (s.drop i) : Int)) ∧ Below w.heap.size w w' := by
  have hsz : (ByteArray.mk s.toArray).size = s.length := by simp [ByteArray.size]
  obtain ⟨c, hc⟩ : ∃ c, s[i] = c := ⟨_, rfl⟩
  have hx := ba_at s i hin hc
  by_cases h2 : i + 1 < s.length
  · obtain ⟨d, hd⟩ : ∃ d, s[i + 1] = d := ⟨_, rfl⟩
    have hsub := sub2 s i h2 hc hd
    have hr : Hid (signL (s.drop i) = if rpairs.any (hitP c d) = true then 2 else if signB.contains c = true then 1 else 0) := Lib.hid (by
      rw [List.drop_eq_getElem_cons hin, List.drop_eq_getElem_cons h2, hc, hd]; exact sign_at2 _ _ _)
    have hi2 : decide (i + 2 ≤ s.length) = true := by simp; omega
    clear hc hd
    go_enter Try.func66, Try.ntmps66
    go_wp2_with fail
    go_loopw [4, 6, 16] (fun _ _ v wr => ∃ k : Nat, k ≤ 6 ∧ v = .int .i64 k ∧ (rpairs.take k).any (hitP c d) = false ∧ wr.heap[w.heap.size]? = some (.cells #[.string ⟨#[38, 38]⟩, .string ⟨#[124, 124]⟩, .string ⟨#[61, 61]⟩, .string ⟨#[33, 61]⟩, .string ⟨#[60, 61]⟩, .string ⟨#[43, 43]⟩] 9 (0, 0)) ∧ Below w.heap.size w wr) (fun _ _ v _ => 6 - (intOf v).toNat)
    case atStart => exact ⟨0, by omega, rfl, rfl, heap_alloc_new _ _, (Below.refl _ _).alloc (Nat.le_refl _) _⟩
    case round =>
      obtain ⟨k, hk, rfl, hp, hX, hB⟩ := hrel
      obtain ⟨⟨x0, x1, x2⟩, x3, x4, x5⟩ := pairs6 wr _ hX
      match k, hk with
      | 0, _ =>
        cases hq : (c == 38 && d == 38)
        · go_wp2_with fail
          go_roundw
          case rel => exact ⟨0 + 1, by omega, by go_num, by rw [show rpairs.take (0 + 1) = rpairs.take 0 ++ [(38, 38)] from rfl, List.any_append, hp]; simp [hitP, hq], hX, hB⟩
          case measure => simp [intOf]
        · go_wp2_with fail
          go_ret
          refine ⟨by rw [hr.out, if_pos (by simp [rpairs, hitP, hq])]; rfl, ?_⟩
          repeat (first | (with_reducible exact Below.refl _ _) | (with_reducible assumption) | refine Below.setCell ?_ (by simp <;> omega) _ | refine Below.alloc ?_ (by simp <;> omega) _ | refine Below.drew ?_)
      | 1, _ =>
        cases hq : (c == 124 && d == 124)
        · go_wp2_with fail
          go_roundw
          case rel => exact ⟨1 + 1, by omega, by go_num, by rw [show rpairs.take (1 + 1) = rpairs.take 1 ++ [(124, 124)] from rfl, List.any_append, hp]; simp [hitP, hq], hX, hB⟩
          case measure => simp [intOf]
        · go_wp2_with fail
          go_ret
          refine ⟨by rw [hr.out, if_pos (by simp [rpairs, hitP, hq])]; rfl, ?_⟩
          repeat (first | (with_reducible exact Below.refl _ _) | (with_reducible assumption) | refine Below.setCell ?_ (by simp <;> omega) _ | refine Below.alloc ?_ (by simp <;> omega) _ | refine Below.drew ?_)
      | 2, _ =>
        cases hq : (c == 61 && d == 61)
        · go_wp2_with fail
          go_roundw
          case rel => exact ⟨2 + 1, by omega, by go_num, by rw [show rpairs.take (2 + 1) = rpairs.take 2 ++ [(61, 61)] from rfl, List.any_append, hp]; simp [hitP, hq], hX, hB⟩
          case measure => simp [intOf]
        · go_wp2_with fail
          go_ret
          refine ⟨by rw [hr.out, if_pos (by simp [rpairs, hitP, hq])]; rfl, ?_⟩
          repeat (first | (with_reducible exact Below.refl _ _) | (with_reducible assumption) | refine Below.setCell ?_ (by simp <;> omega) _ | refine Below.alloc ?_ (by simp <;> omega) _ | refine Below.drew ?_)
      | 3, _ =>
        cases hq : (c == 33 && d == 61)
        · go_wp2_with fail
          go_roundw
          case rel => exact ⟨3 + 1, by omega, by go_num, by rw [show rpairs.take (3 + 1) = rpairs.take 3 ++ [(33, 61)] from rfl, List.any_append, hp]; simp [hitP, hq], hX, hB⟩
          case measure => simp [intOf]
        · go_wp2_with fail
          go_ret
          refine ⟨by rw [hr.out, if_pos (by simp [rpairs, hitP, hq])]; rfl, ?_⟩
          repeat (first | (with_reducible exact Below.refl _ _) | (with_reducible assumption) | refine Below.setCell ?_ (by simp <;> omega) _ | refine Below.alloc ?_ (by simp <;> omega) _ | refine Below.drew ?_)
      | 4, _ =>
        cases hq : (c == 60 && d == 61)
        · go_wp2_with fail
          go_roundw
          case rel => exact ⟨4 + 1, by omega, by go_num, by rw [show rpairs.take (4 + 1) = rpairs.take 4 ++ [(60, 61)] from rfl, List.any_append, hp]; simp [hitP, hq], hX, hB⟩
          case measure => simp [intOf]
        · go_wp2_with fail
          go_ret
          refine ⟨by rw [hr.out, if_pos (by simp [rpairs, hitP, hq])]; rfl, ?_⟩
          repeat (first | (with_reducible exact Below.refl _ _) | (with_reducible assumption) | refine Below.setCell ?_ (by simp <;> omega) _ | refine Below.alloc ?_ (by simp <;> omega) _ | refine Below.drew ?_)
      | 5, _ =>
        cases hq : (c == 43 && d == 43)
        · go_wp2_with fail
          go_roundw
          case rel => exact ⟨5 + 1, by omega, by go_num, by rw [show rpairs.take (5 + 1) = rpairs.take 5 ++ [(43, 43)] from rfl, List.any_append, hp]; simp [hitP, hq], hX, hB⟩
          case measure => simp [intOf]
        · go_wp2_with fail
          go_ret
          refine ⟨by rw [hr.out, if_pos (by simp [rpairs, hitP, hq])]; rfl, ?_⟩
          repeat (first | (with_reducible exact Below.refl _ _) | (with_reducible assumption) | refine Below.setCell ?_ (by simp <;> omega) _ | refine Below.alloc ?_ (by simp <;> omega) _ | refine Below.drew ?_)
      | 6, _ =>
        have hp' : rpairs.any (hitP c d) = false := hp
        have hr2 : Hid (signL (s.drop i) = if signB.contains c = true then 1 else 0) := Lib.hid (by rw [hr.out, if_neg (by rw [hp']; simp)])
        clear hr hp hp' hX x0 x1 x2 x3 x4 x5 hsub
        go_wp2_with fail
        have hB0 := Lib.hid hB
        clear hB
        go_loopw [4, 8] (fun _ v wr => ∃ k : Nat, k ≤ 17 ∧ v = .int .i64 k ∧ Hid ((signB.take k).contains c = false) ∧ Below w.heap.size w wr) (fun _ v _ => 17 - (intOf v).toNat)
        case atStart => exact ⟨0, by omega, rfl, Lib.hid rfl, hB0.out⟩
        case round =>
          obtain ⟨k, hk, rfl, hp, hB⟩ := hrel
          by_cases hlt : k < 17
          · have hks : k < signB.length := hlt
            obtain ⟨e, he⟩ : ∃ e, signB[k] = e := ⟨_, rfl⟩
            have hst := Lib.hid (sign_end c hks hp.out)
            rw [he] at hst
            have hy : (ByteArray.mk #[123, 125, 40, 41, 91, 93, 59, 44, 46, 61, 60, 43, 45, 42, 47, 37, 33])[k]'hlt = e := he
            have hki : (k : Int) < 17 := by omega
            have hin2 : Hid (signB.contains e = true) := Lib.hid (by rw [← he]; simp)
            clear he hks
            by_cases hec : e = c
            · have e1 : ((e.toNat : Int) == (c.toNat : Int)) = true := by rw [hec]; simp
              rw [hec] at hin2
              have HE := Lib.hid hec
              clear hec
              go_wp2_with fail
              refine wp_region_sched [(0, true), (1, true), (2, true), (3, true), (4, true), (5, true), (6, true)] (by kernel_rfl) (by kernel_rfl) (fun _ _ d _ _ h => by cases d <;> exact h) ?_
              repeat (first | (refine sreadx rfl rfl ?_; apply Exists.intro; apply And.intro; (· (intro W hW; first | (go_simp; done) | (go_simp; with_reducible rfl) | (go_simp; rw [if_neg (by omega)]; done) | (go_simp; rw [if_neg (by omega)]; with_reducible rfl))); simp only [Act.put, List.setIfInBounds_toArray, List.set_cons_zero, List.set_cons_succ]) | (refine sskip rfl rfl ?_; simp only [Act.put, List.setIfInBounds_toArray, List.set_cons_zero, List.set_cons_succ]))
              refine sdone ?_
              go_wp2_with fail
              go_ret
              refine ⟨by rw [hr2.out, if_pos hin2.out]; rfl, ?_⟩
              repeat (first | (with_reducible exact Below.refl _ _) | (with_reducible assumption) | refine Below.setCell ?_ (by simp <;> omega) _ | refine Below.alloc ?_ (by simp <;> omega) _ | refine Below.drew ?_)
            · have e1 : ((e.toNat : Int) == (c.toNat : Int)) = false := by
                simp; intro h; exact hec (UInt8.toNat_inj.1 (by omega))
              have hst2 : Hid ((signB.take (k + 1)).contains c = false) := Lib.hid (by rw [hst.out]; simpa using hec)
              clear hec
              go_wp2_with fail
              refine wp_region_sched [(0, true), (1, true), (2, true), (3, true), (4, true), (5, true), (6, true)] (by kernel_rfl) (by kernel_rfl) (fun _ _ d _ _ h => by cases d <;> exact h) ?_
              repeat (first | (refine sreadx rfl rfl ?_; apply Exists.intro; apply And.intro; (· (intro W hW; first | (go_simp; done) | (go_simp; with_reducible rfl) | (go_simp; rw [if_neg (by omega)]; done) | (go_simp; rw [if_neg (by omega)]; with_reducible rfl))); simp only [Act.put, List.setIfInBounds_toArray, List.set_cons_zero, List.set_cons_succ]) | (refine sskip rfl rfl ?_; simp only [Act.put, List.setIfInBounds_toArray, List.set_cons_zero, List.set_cons_succ]))
              refine sdone ?_
              go_wp2_with fail
              go_roundw
              case rel => exact ⟨k + 1, by omega, by go_num, hst2, hB.drew⟩
              case measure => simp [intOf]; omega
          · obtain rfl : k = 17 := by omega
            have hp2 : Hid (signB.contains c = false) := Lib.hid hp.out
            go_wp2_with fail
            go_ret
            refine ⟨by rw [hr2.out, if_neg (by rw [hp2.out]; simp)]; rfl, ?_⟩
            repeat (first | (with_reducible exact Below.refl _ _) | (with_reducible assumption) | refine Below.setCell ?_ (by simp <;> omega) _ | refine Below.alloc ?_ (by simp <;> omega) _ | refine Below.drew ?_)
      | k + 7, h => exact absurd h (by omega)
  · have h2' : decide ((i : Int) + 1 < (s.length : Int)) = false := by simp; omega
    have hr2 : Hid (signL (s.drop i) = if signB.contains c = true then 1 else 0) := Lib.hid (by
      rw [List.drop_eq_getElem_cons hin, List.drop_of_length_le (by omega), hc]; exact sign_at1 _)
    have hB : Below w.heap.size w w := Below.refl _ _
    clear hc
    go_enter Try.func66, Try.ntmps66
    go_wp2_with fail
    have hB0 := Lib.hid hB
    clear hB
    go_loopw [4, 8] (fun _ v wr => ∃ k : Nat, k ≤ 17 ∧ v = .int .i64 k ∧ Hid ((signB.take k).contains c = false) ∧ Below w.heap.size w wr) (fun _ v _ => 17 - (intOf v).toNat)
    case atStart => exact ⟨0, by omega, rfl, Lib.hid rfl, hB0.out⟩
    case round =>
      obtain ⟨k, hk, rfl, hp, hB⟩ := hrel
      by_cases hlt : k < 17
      · have hks : k < signB.length := hlt
        obtain ⟨e, he⟩ : ∃ e, signB[k] = e := ⟨_, rfl⟩
        have hst := Lib.hid (sign_end c hks hp.out)
        rw [he] at hst
        have hy : (ByteArray.mk #[123, 125, 40, 41, 91, 93, 59, 44, 46, 61, 60, 43, 45, 42, 47, 37, 33])[k]'hlt = e := he
        have hki : (k : Int) < 17 := by omega
        have hin2 : Hid (signB.contains e = true) := Lib.hid (by rw [← he]; simp)
        clear he hks
        by_cases hec : e = c
        · have e1 : ((e.toNat : Int) == (c.toNat : Int)) = true := by rw [hec]; simp
          rw [hec] at hin2
          have HE := Lib.hid hec
          clear hec
          go_wp2_with fail
          refine wp_region_sched [(0, true), (1, true), (2, true), (3, true), (4, true), (5, true), (6, true)] (by kernel_rfl) (by kernel_rfl) (fun _ _ d _ _ h => by cases d <;> exact h) ?_
          repeat (first | (refine sreadx rfl rfl ?_; apply Exists.intro; apply And.intro; (· (intro W hW; first | (go_simp; done) | (go_simp; with_reducible rfl) | (go_simp; rw [if_neg (by omega)]; done) | (go_simp; rw [if_neg (by omega)]; with_reducible rfl))); simp only [Act.put, List.setIfInBounds_toArray, List.set_cons_zero, List.set_cons_succ]) | (refine sskip rfl rfl ?_; simp only [Act.put, List.setIfInBounds_toArray, List.set_cons_zero, List.set_cons_succ]))
          refine sdone ?_
          go_wp2_with fail
          go_ret
          refine ⟨by rw [hr2.out, if_pos hin2.out]; rfl, ?_⟩
          repeat (first | (with_reducible exact Below.refl _ _) | (with_reducible assumption) | refine Below.setCell ?_ (by simp <;> omega) _ | refine Below.alloc ?_ (by simp <;> omega) _ | refine Below.drew ?_)
        · have e1 : ((e.toNat : Int) == (c.toNat : Int)) = false := by
            simp; intro h; exact hec (UInt8.toNat_inj.1 (by omega))
          have hst2 : Hid ((signB.take (k + 1)).contains c = false) := Lib.hid (by rw [hst.out]; simpa using hec)
          clear hec
          go_wp2_with fail
          refine wp_region_sched [(0, true), (1, true), (2, true), (3, true), (4, true), (5, true), (6, true)] (by kernel_rfl) (by kernel_rfl) (fun _ _ d _ _ h => by cases d <;> exact h) ?_
          repeat (first | (refine sreadx rfl rfl ?_; apply Exists.intro; apply And.intro; (· (intro W hW; first | (go_simp; done) | (go_simp; with_reducible rfl) | (go_simp; rw [if_neg (by omega)]; done) | (go_simp; rw [if_neg (by omega)]; with_reducible rfl))); simp only [Act.put, List.setIfInBounds_toArray, List.set_cons_zero, List.set_cons_succ]) | (refine sskip rfl rfl ?_; simp only [Act.put, List.setIfInBounds_toArray, List.set_cons_zero, List.set_cons_succ]))
          refine sdone ?_
          go_wp2_with fail
          go_roundw
          case rel => exact ⟨k + 1, by omega, by go_num, hst2, hB.drew⟩
          case measure => simp [intOf]; omega
      · obtain rfl : k = 17 := by omega
        have hp2 : Hid (signB.contains c = false) := Lib.hid hp.out
        go_wp2_with fail
        go_ret
        refine ⟨by rw [hr2.out, if_neg (by rw [hp2.out]; simp)]; rfl, ?_⟩
        repeat (first | (with_reducible exact Below.refl _ _) | (with_reducible assumption) | refine Below.setCell ?_ (by simp <;> omega) _ | refine Below.alloc ?_ (by simp <;> omega) _ | refine Below.drew ?_)
end Go.Proofs.Ytpodniljpinigaa.X
