/- The contract of the lexer's sign. -/
import Derived.Test.YtpodniljpinigaaLexNum
namespace Go.Proofs.Ytpodniljpinigaa.X
open Go.RowKit O V S

def signB : List UInt8 := [123, 125, 40, 41, 91, 93, 59, 44, 46, 61, 60, 43, 45, 42, 47, 37, 33]
def pairs : List (List UInt8) := [[38, 38], [124, 124], [61, 61], [33, 61], [60, 61], [43, 43]]
theorem one_mem (c : UInt8) : one c.toNat = signB.contains c := by
  have h : signs = signB.map UInt8.toNat := rfl
  unfold one
  rw [h, List.any_map, List.contains_eq_any_beq]
  congr 1
  funext x
  rw [Bool.eq_iff_iff]
  simp only [Function.comp_apply, decide_eq_true_eq, beq_iff_eq]
  exact ⟨fun h => (UInt8.toNat_inj.1 h).symm, fun h => by rw [h]⟩
theorem index_mem (c : UInt8) : ∀ l : List UInt8, decide (0 ≤ Lib.indexByte l c) = l.contains c
  | [] => by simp [Lib.indexByte]
  | x :: r => by
    have := index_mem c r
    have hg := Lib.indexByte_ge r c
    have h1 : (x == c) = (c == x) := by rw [Bool.eq_iff_iff]; simp only [beq_iff_eq]; exact eq_comm
    unfold Lib.indexByte
    rw [List.contains_cons, ← this, ← h1]
    cases hx : x == c
    · simp only [Bool.false_eq_true, if_false, Bool.false_or]
      by_cases hm : Lib.indexByte r c = -1
      · rw [if_pos (by simp [hm]), hm]
      · rw [if_neg (by simp [hm])]
        rw [Bool.eq_iff_iff, decide_eq_true_eq, decide_eq_true_eq]; omega
    · simp
theorem two_pairs (c d : UInt8) (r : List UInt8) : two c.toNat d.toNat = pairs.any (Lib.hasPrefix (c :: d :: r)) := by
  have h : ∀ a b : UInt8, Lib.hasPrefix (c :: d :: r) [a, b] = (decide (c.toNat = a.toNat) && decide (d.toNat = b.toNat)) := by
    intro a b
    simp only [Lib.hasPrefix, List.isPrefixOf, Bool.and_true]
    have h : ∀ x y : UInt8, (x == y) = decide (y.toNat = x.toNat) := fun x y => by
      rw [Bool.eq_iff_iff, beq_iff_eq, decide_eq_true_eq]
      exact ⟨fun h => by rw [h], fun h => (UInt8.toNat_inj.1 h).symm⟩
    rw [h, h]
  unfold pairs two
  simp only [List.any_cons, h, List.any_nil, Bool.or_false]
  rfl
theorem signL_eq (c : UInt8) (r : List UInt8) : signL (c :: r) = if pairs.any (Lib.hasPrefix (c :: r)) = true then 2 else if signB.contains c = true then 1 else 0 := by
  rw [← one_mem]
  match r with
  | [] =>
    have : pairs.any (Lib.hasPrefix [c]) = false := by simp [pairs, Lib.hasPrefix, List.isPrefixOf]
    rw [this]; simp [signL]
  | d :: r => rw [← two_pairs]; rfl
theorem signL_at : ∀ (t : List UInt8) (h : 0 < t.length), signL t = if pairs.any (Lib.hasPrefix t) = true then 2 else if signB.contains t[0] = true then 1 else 0
  | c :: r, _ => signL_eq c r
set_option maxHeartbeats 1000000 in
set_option maxRecDepth 100000 in
theorem sign_any (g : Nat) (s : List UInt8) (i : Nat) (w : World) (h : Lx w g s i) (hin : i < s.length) : Calls Try.prog 64 #[.pointer (some ⟨g, 0, none⟩)] w fun e w' => e = .returned (.int .i64 (signL (s.drop i) : Int)) ∧ Below w.heap.size w w' := by
  have hn := h.n
  have hi := h.i
  have hin' : decide (i ≤ s.length) = true := by simp; omega
  have HL := Lib.hid h
  have hgl := h.lt
  have hsz : (ByteArray.mk s.toArray).size = s.length := by simp [ByteArray.size]
  have hcut := cut_at s i (s.length - i) s.length (by omega)
  rw [List.take_of_length_le (by simp)] at hcut
  have hul : (s.drop i).length = s.length - i := by simp
  have hlt0 : 0 < (s.drop i).length := by omega
  clear h
  obtain ⟨t, ht⟩ : ∃ t, s.drop i = t := ⟨_, rfl⟩
  rw [ht] at hcut hul hlt0
  rw [ht]
  clear ht
  go_enter Try.func64, Try.ntmps64
  go_wp2_with fail
  refine wp_region_sched [(0, true), (1, true), (2, true), (3, true), (4, true), (5, true), (6, true), (7, true), (8, true), (9, true), (10, true)] (by kernel_rfl) (by kernel_rfl) (fun _ _ d _ _ h => by cases d <;> exact h) ?_
  refine swith (fun W hW => (cells4 (HL.out.next ((Below.refl _ _).drew.trans (hW.out.mono (Nat.le_refl _)))).box)) (fun q => ?_)
  repeat (first | (refine sreadx rfl rfl ?_; apply Exists.intro; apply And.intro; (· (intro W hW; first | (go_simp; done) | (go_simp; with_reducible rfl) | (go_simp; rw [if_neg (by omega)]; done) | (go_simp; rw [if_neg (by omega)]; with_reducible rfl))); simp only [Act.put, List.setIfInBounds_toArray, List.set_cons_zero, List.set_cons_succ]) | (refine sskip rfl rfl ?_; simp only [Act.put, List.setIfInBounds_toArray, List.set_cons_zero, List.set_cons_succ]))
  refine sdone ?_
  clear q
  have hr := Lib.hid (signL_at t hlt0)
  obtain ⟨c, hc⟩ : ∃ c, t[0] = c := ⟨_, rfl⟩
  rw [hc] at hr
  have hx := ba_at t 0 hlt0 hc
  have hsz2 : (ByteArray.mk t.toArray).size = t.length := by simp [ByteArray.size]
  clear hc
  clear hcut hsz hul
  go_wp2_with fail
  go_loop [2, 18] (fun v i => ∃ k : Nat, k ≤ 6 ∧ i = .int .i64 k ∧ (pairs.take k).any (Lib.hasPrefix t) = false) (fun _ i => 6 - (intOf i).toNat)
  case atStart => exact ⟨0, by omega, rfl, rfl⟩
  case round =>
    obtain ⟨k, hk, rfl, hp⟩ := hrel
    match k, hk with
    | 0, _ =>
      go_wp2_with fail
      refine (Try.strings_HasPrefix ⟨t.toArray⟩ ⟨#[38, 38]⟩ _).mono ?_; rintro e w1 ⟨rfl, rfl⟩
      have hpk : Lib.hasPrefix (ByteArray.mk t.toArray).data.toList (ByteArray.mk #[38, 38]).data.toList = Lib.hasPrefix t [38, 38] := rfl
      rw [hpk]
      cases hq : Lib.hasPrefix t [38, 38]
      · go_wp2_with fail
        go_round
        case rel => exact ⟨0 + 1, by omega, by go_num, by rw [show pairs.take (0 + 1) = pairs.take 0 ++ [[38, 38]] from rfl, List.any_append, hp]; simp [hq]⟩
        case measure => simp [intOf]
      · go_wp2_with fail
        go_ret
        refine ⟨by rw [hr.out, if_pos (by simp [pairs, hq])]; rfl, ?_⟩
        repeat (first | (with_reducible exact Below.refl _ _) | (with_reducible assumption) | refine Below.setCell ?_ (by simp <;> omega) _ | refine Below.alloc ?_ (by simp <;> omega) _ | refine Below.drew ?_)
    | 1, _ =>
      go_wp2_with fail
      refine (Try.strings_HasPrefix ⟨t.toArray⟩ ⟨#[124, 124]⟩ _).mono ?_; rintro e w1 ⟨rfl, rfl⟩
      have hpk : Lib.hasPrefix (ByteArray.mk t.toArray).data.toList (ByteArray.mk #[124, 124]).data.toList = Lib.hasPrefix t [124, 124] := rfl
      rw [hpk]
      cases hq : Lib.hasPrefix t [124, 124]
      · go_wp2_with fail
        go_round
        case rel => exact ⟨1 + 1, by omega, by go_num, by rw [show pairs.take (1 + 1) = pairs.take 1 ++ [[124, 124]] from rfl, List.any_append, hp]; simp [hq]⟩
        case measure => simp [intOf]
      · go_wp2_with fail
        go_ret
        refine ⟨by rw [hr.out, if_pos (by simp [pairs, hq])]; rfl, ?_⟩
        repeat (first | (with_reducible exact Below.refl _ _) | (with_reducible assumption) | refine Below.setCell ?_ (by simp <;> omega) _ | refine Below.alloc ?_ (by simp <;> omega) _ | refine Below.drew ?_)
    | 2, _ =>
      go_wp2_with fail
      refine (Try.strings_HasPrefix ⟨t.toArray⟩ ⟨#[61, 61]⟩ _).mono ?_; rintro e w1 ⟨rfl, rfl⟩
      have hpk : Lib.hasPrefix (ByteArray.mk t.toArray).data.toList (ByteArray.mk #[61, 61]).data.toList = Lib.hasPrefix t [61, 61] := rfl
      rw [hpk]
      cases hq : Lib.hasPrefix t [61, 61]
      · go_wp2_with fail
        go_round
        case rel => exact ⟨2 + 1, by omega, by go_num, by rw [show pairs.take (2 + 1) = pairs.take 2 ++ [[61, 61]] from rfl, List.any_append, hp]; simp [hq]⟩
        case measure => simp [intOf]
      · go_wp2_with fail
        go_ret
        refine ⟨by rw [hr.out, if_pos (by simp [pairs, hq])]; rfl, ?_⟩
        repeat (first | (with_reducible exact Below.refl _ _) | (with_reducible assumption) | refine Below.setCell ?_ (by simp <;> omega) _ | refine Below.alloc ?_ (by simp <;> omega) _ | refine Below.drew ?_)
    | 3, _ =>
      go_wp2_with fail
      refine (Try.strings_HasPrefix ⟨t.toArray⟩ ⟨#[33, 61]⟩ _).mono ?_; rintro e w1 ⟨rfl, rfl⟩
      have hpk : Lib.hasPrefix (ByteArray.mk t.toArray).data.toList (ByteArray.mk #[33, 61]).data.toList = Lib.hasPrefix t [33, 61] := rfl
      rw [hpk]
      cases hq : Lib.hasPrefix t [33, 61]
      · go_wp2_with fail
        go_round
        case rel => exact ⟨3 + 1, by omega, by go_num, by rw [show pairs.take (3 + 1) = pairs.take 3 ++ [[33, 61]] from rfl, List.any_append, hp]; simp [hq]⟩
        case measure => simp [intOf]
      · go_wp2_with fail
        go_ret
        refine ⟨by rw [hr.out, if_pos (by simp [pairs, hq])]; rfl, ?_⟩
        repeat (first | (with_reducible exact Below.refl _ _) | (with_reducible assumption) | refine Below.setCell ?_ (by simp <;> omega) _ | refine Below.alloc ?_ (by simp <;> omega) _ | refine Below.drew ?_)
    | 4, _ =>
      go_wp2_with fail
      refine (Try.strings_HasPrefix ⟨t.toArray⟩ ⟨#[60, 61]⟩ _).mono ?_; rintro e w1 ⟨rfl, rfl⟩
      have hpk : Lib.hasPrefix (ByteArray.mk t.toArray).data.toList (ByteArray.mk #[60, 61]).data.toList = Lib.hasPrefix t [60, 61] := rfl
      rw [hpk]
      cases hq : Lib.hasPrefix t [60, 61]
      · go_wp2_with fail
        go_round
        case rel => exact ⟨4 + 1, by omega, by go_num, by rw [show pairs.take (4 + 1) = pairs.take 4 ++ [[60, 61]] from rfl, List.any_append, hp]; simp [hq]⟩
        case measure => simp [intOf]
      · go_wp2_with fail
        go_ret
        refine ⟨by rw [hr.out, if_pos (by simp [pairs, hq])]; rfl, ?_⟩
        repeat (first | (with_reducible exact Below.refl _ _) | (with_reducible assumption) | refine Below.setCell ?_ (by simp <;> omega) _ | refine Below.alloc ?_ (by simp <;> omega) _ | refine Below.drew ?_)
    | 5, _ =>
      go_wp2_with fail
      refine (Try.strings_HasPrefix ⟨t.toArray⟩ ⟨#[43, 43]⟩ _).mono ?_; rintro e w1 ⟨rfl, rfl⟩
      have hpk : Lib.hasPrefix (ByteArray.mk t.toArray).data.toList (ByteArray.mk #[43, 43]).data.toList = Lib.hasPrefix t [43, 43] := rfl
      rw [hpk]
      cases hq : Lib.hasPrefix t [43, 43]
      · go_wp2_with fail
        go_round
        case rel => exact ⟨5 + 1, by omega, by go_num, by rw [show pairs.take (5 + 1) = pairs.take 5 ++ [[43, 43]] from rfl, List.any_append, hp]; simp [hq]⟩
        case measure => simp [intOf]
      · go_wp2_with fail
        go_ret
        refine ⟨by rw [hr.out, if_pos (by simp [pairs, hq])]; rfl, ?_⟩
        repeat (first | (with_reducible exact Below.refl _ _) | (with_reducible assumption) | refine Below.setCell ?_ (by simp <;> omega) _ | refine Below.alloc ?_ (by simp <;> omega) _ | refine Below.drew ?_)
    | 6, _ =>
      have hp' : pairs.any (Lib.hasPrefix t) = false := hp
      rw [if_neg (by rw [hp']; simp)] at hr
      have hm := index_mem c signB
      go_wp2_with fail
      refine (Try.strings_IndexByte ⟨#[123, 125, 40, 41, 91, 93, 59, 44, 46, 61, 60, 43, 45, 42, 47, 37, 33]⟩ (c.toNat : Int) _).mono ?_; rintro e w1 ⟨rfl, rfl⟩
      have hpk : Lib.indexByte (ByteArray.mk #[123, 125, 40, 41, 91, 93, 59, 44, 46, 61, 60, 43, 45, 42, 47, 37, 33]).data.toList (c.toNat : Int).toNat.toUInt8 = Lib.indexByte signB c := by
        rw [show (c.toNat : Int).toNat.toUInt8 = c from by simp]; rfl
      rw [hpk]
      rw [← hm] at hr
      clear hm
      generalize Lib.indexByte signB c = x at *
      cases hq : decide (0 ≤ x)
      · rw [hq] at hr
        go_wp2_with fail
        go_ret
        refine ⟨by rw [hr.out]; rfl, ?_⟩
        repeat (first | (with_reducible exact Below.refl _ _) | (with_reducible assumption) | refine Below.setCell ?_ (by simp <;> omega) _ | refine Below.alloc ?_ (by simp <;> omega) _ | refine Below.drew ?_)
      · rw [hq] at hr
        go_wp2_with fail
        go_ret
        refine ⟨by rw [hr.out]; rfl, ?_⟩
        repeat (first | (with_reducible exact Below.refl _ _) | (with_reducible assumption) | refine Below.setCell ?_ (by simp <;> omega) _ | refine Below.alloc ?_ (by simp <;> omega) _ | refine Below.drew ?_)
    | k + 7, h => exact absurd h (by omega)
end Go.Proofs.Ytpodniljpinigaa.X
