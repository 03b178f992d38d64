/- What holds of the log while WalCrashes goes on. -/
import Derived.Test.YtkcehoejcklmfaaWalCrashPlain
import Derived.Test.YtkcehoejcklmfaaWalGensWalk
namespace Go.Proofs.Ytkcehoejcklmfaa.L
open Go.RowKit O D K

structure CrI (x : LS) (im : List UInt8) (added : List (List UInt8)) (sure k : Nat) : Prop where
  kept : x.kept = 0
  gen : x.gen ≤ k
  le : sure ≤ added.length
  room : x.s.room = 16384
  log : x.s.log = catF x.gen added
  sur : x.s.sure = catF x.gen (added.take sure)
  n0 : x.s.s0 = x.s.n0
  n1 : x.s.s1 = x.s.n1
  l0 : x.s.n0.length ≤ 320
  l1 : x.s.n1.length ≤ 320
  new : newTo x.s 2 = if x.gen = 0 then none else some (x.gen, im)
  im0 : x.gen = 0 → im = []

theorem CrI.sync {x : LS} {im : List UInt8} {added : List (List UInt8)} {sure k : Nat} (h : CrI x im added sure k) : CrI x.sync im added added.length (k + 1) := by
  have e : newTo x.sync.s 2 = newTo x.s 2 := rfl
  refine ⟨h.kept, Nat.le_succ_of_le h.gen, Nat.le_refl _, h.room, ?_, ?_, rfl, rfl, h.l0, h.l1, by rw [e]; exact h.new, h.im0⟩
  · have := h.log
    simpa [LS.sync, St.sync, St.log] using this
  · have := h.log
    simpa [LS.sync, St.sync, St.log] using this
theorem CrI.add {x : LS} {im b : List UInt8} {added : List (List UInt8)} {sure k : Nat} (h : CrI x im added sure k) : ((x.add b).2 = 0 ∧ CrI (x.add b).1 im (added ++ [b]) sure (k + 1)) ∨ ((x.add b).2 = 4 ∧ CrI (x.add b).1 im added sure (k + 1)) := by
  unfold LS.add
  split
  · exact .inr ⟨rfl, h.kept, Nat.le_succ_of_le h.gen, h.le, h.room, h.log, h.sur, h.n0, h.n1, h.l0, h.l1, h.new, h.im0⟩
  · rename_i hf
    have hk := h.kept
    have e := app_fits (s := x.s) (b := frameL x.gen b) (by have := frameL_pos x.gen b; unfold LS.free at hf; omega)
    left
    simp only [e]
    refine ⟨trivial, h.kept, Nat.le_succ_of_le h.gen, by have := h.le; simp; omega, h.room, ?_, ?_, h.n0, h.n1, h.l0, h.l1, h.new, h.im0⟩
    · have := h.log
      simp only [St.log] at this ⊢
      rw [catF_snoc, ← List.append_assoc, this]
    · have := h.sur
      simp only
      rw [this, List.take_append_of_le_length h.le]
/-- Neither of two is newer than the newer one. -/
theorem newer_le {a b : Option (Nat × List UInt8)} {G : Nat} {im : List UInt8} (h : newer a b = if G = 0 then none else some (G, im)) : (∀ y, a = some y → y.1 ≤ G) ∧ (∀ y, b = some y → y.1 ≤ G) := by
  unfold newer at h
  split at h
  · refine ⟨fun y hy => ?_, fun y hy => by cases hy⟩
    rw [hy] at h
    split at h
    · cases h
    · injection h with h; rw [h]; exact Nat.le_refl _
  · refine ⟨fun y hy => (by cases hy), fun y hy => ?_⟩
    injection hy with hy
    subst hy
    split at h
    · cases h
    · injection h with h; rw [h]; exact Nat.le_refl _
  · rename_i x y
    split at h
    · rename_i hlt
      split at h
      · cases h
      · injection h with h
        subst h
        exact ⟨fun z hz => by injection hz with hz; subst hz; simp at hlt; omega, fun z hz => by injection hz with hz; subst hz; exact Nat.le_refl _⟩
    · rename_i hlt
      split at h
      · cases h
      · injection h with h
        subst h
        exact ⟨fun z hz => by injection hz with hz; subst hz; exact Nat.le_refl _, fun z hz => by injection hz with hz; subst hz; simp at hlt; omega⟩
theorem newer_old {a : Option (Nat × List UInt8)} {G : Nat} {im : List UInt8} (h : ∀ y, a = some y → y.1 < G) : newer a (some (G, im)) = some (G, im) ∧ newer (some (G, im)) a = some (G, im) := by
  cases a with
  | none => exact ⟨rfl, rfl⟩
  | some y =>
    have := h y rfl
    refine ⟨?_, ?_⟩
    · unfold newer; simp [this]
    · unfold newer; simp; omega
theorem newTo_two (s : St) : newTo s 2 = newer (newer none (imageOf s.n0)) (imageOf s.n1) := rfl
theorem newer_none (a : Option (Nat × List UInt8)) : newer none a = a := by cases a <;> rfl
theorem CrI.check {x : LS} {im b : List UInt8} {added : List (List UInt8)} {sure k : Nat} (h : CrI x im added sure k) (hk : k ≤ 1000) (hb : b.length ≤ 200) : (x.check b).2 = 0 ∧ CrI (x.check b).1 b [] 0 (k + 1) := by
  have hg := h.gen
  have fl := walGens.frame_le (g := x.gen + 1) (b := b) (by omega)
  have im1 := walGens.image_frame (g := x.gen + 1) (s := b) (by omega) (by omega)
  have hn := h.new
  rw [newTo_two, newer_none] at hn
  obtain ⟨o0, o1⟩ := newer_le hn
  have hE : x.check b = ({ s := (x.s.write ((x.gen + 1) % 2 : Nat) (frameL (x.gen + 1) b)).1.sync.clear, gen := x.gen + 1, kept := x.kept }, 0) := by unfold LS.check; rw [if_neg (by omega), if_neg (by omega)]
  rw [hE]
  refine ⟨rfl, ?_⟩
  have hp : (x.gen + 1) % 2 = 0 ∨ (x.gen + 1) % 2 = 1 := by omega
  rcases hp with hp | hp
  · rw [hp]
    have hw : (x.s.write ((0 : Nat) : Int) (frameL (x.gen + 1) b)).1.sync.clear = ⟨x.s.room, [], [], frameL (x.gen + 1) b, x.s.n1, frameL (x.gen + 1) b, x.s.n1⟩ := by simp [St.write, St.sync, St.clear]
    rw [hw]
    refine ⟨h.kept, by simpa using hg, Nat.le_refl _, h.room, by simp [St.log, catF], by simp [catF], rfl, rfl, fl, h.l1, ?_, fun e => by simp at e⟩
    rw [newTo_two, newer_none]
    simp only [im1]
    rw [(newer_old (fun y hy => by have := o1 y hy; omega)).2]
    simp
  · rw [hp]
    have hw : (x.s.write ((1 : Nat) : Int) (frameL (x.gen + 1) b)).1.sync.clear = ⟨x.s.room, [], [], x.s.n0, frameL (x.gen + 1) b, x.s.n0, frameL (x.gen + 1) b⟩ := by simp [St.write, St.sync, St.clear]
    rw [hw]
    refine ⟨h.kept, by simpa using hg, Nat.le_refl _, h.room, by simp [St.log, catF], by simp [catF], rfl, rfl, h.l0, fl, ?_, fun e => by simp at e⟩
    rw [newTo_two, newer_none]
    simp only [im1]
    rw [(newer_old (fun y hy => by have := o0 y hy; omega)).1]
    simp
/-- Behind a crash and Open. -/
theorem CrI.crash {x : LS} {im : List UInt8} {added : List (List UInt8)} {sure k : Nat} (h : CrI x im added sure k) (hk : k ≤ 1000) (hl : (catF x.gen added).length ≤ 16384) (keep : Int) :
    ∃ j, sure ≤ j ∧ j ≤ added.length ∧ scanS (x.s.crash keep) = (added.take j, (catF x.gen (added.take j)).length) ∧ optS (newTo (x.s.crash keep) 2) = im ∧ genS (x.s.crash keep) = x.gen := by
  have hg := h.gen
  have hn : newTo (x.s.crash keep) 2 = newTo x.s 2 := by
    rw [newTo_two, newTo_two]
    simp [St.crash, h.n0, h.n1]
  have hgen : genS (x.s.crash keep) = x.gen := by
    unfold genS
    rw [hn, h.new]
    split
    · rename_i e; rw [e]; rfl
    · rfl
  have him : optS (newTo (x.s.crash keep) 2) = im := by
    rw [hn, h.new]
    split
    · rename_i e; rw [h.im0 e]; rfl
    · rfl
  have hlog : (x.s.crash keep).log = (catF x.gen added).take (x.s.sure.length + keep.toNat) := by
    rw [← h.log]
    simp [St.crash, St.log, List.take_append]
    rw [List.take_of_length_le (by omega)]
  obtain ⟨j, hj, hs, hmin⟩ := scan_cut x.gen (by omega) added (catF x.gen added) [] (x.s.sure.length + keep.toNat) (by simp) (by omega) (by simp)
  refine ⟨j, hmin sure h.le (by rw [← h.sur]; simp), hj, ?_, him, hgen⟩
  unfold scanS
  rw [hgen, hlog]
  simpa using hs
theorem cr_open : openS (newS 16384) = ⟨newS 16384, 0, 0⟩ := by
  have hn : newTo (newS 16384) 2 = none := by simp [newTo, slotN, newS, walGens.image_nil, newer]
  have hs : (newS 16384).sync = newS 16384 := by simp [newS, St.sync, St.log]
  have hl : (newS 16384).log = [] := by simp [newS, St.log]
  unfold openS openD genS
  rw [hn, hl]
  simp [hs, optG]
theorem cr_start : CrI ⟨newS 16384, 0, 0⟩ [] [] 0 0 := by
  have hn : newTo (newS 16384) 2 = none := by simp [newTo, slotN, newS, walGens.image_nil, newer]
  exact ⟨rfl, Nat.le_refl _, Nat.le_refl _, by simp [newS]; decide, by simp [newS, St.log, catF], by simp [newS, catF], rfl, rfl, by simp [newS], by simp [newS], by rw [hn]; simp, fun _ => rfl⟩
end Go.Proofs.Ytkcehoejcklmfaa.L
