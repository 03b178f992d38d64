/- The lexer's reader in memory; the contracts of run, pass, gap. -/
import Derived.Test.YtpodniljpinigaaLexFns
import Derived.Lib.LastIndexByte
namespace Go.Proofs.Ytpodniljpinigaa.X
open Go.RowKit O V S

/-- The reader at block g has gone through the text s as far as i. -/
structure Lx (w : World) (g : Nat) (s : List UInt8) (i : Nat) : Prop where
  box : w.heap[g]? = some (.cells #[.int .i64 (i : Int), .int .i64 (lineOf s i : Int), .int .i64 (startOf s i : Int), .string ⟨s.toArray⟩] 69 (0, 0))
  i : i ≤ s.length
  n : s.length ≤ 20000
theorem Lx.lt {w : World} {g : Nat} {s : List UInt8} {i : Nat} (h : Lx w g s i) : g < w.heap.size := (Array.getElem?_eq_some_iff.1 h.box).1
theorem Lx.next {w W : World} {g : Nat} {s : List UInt8} {i : Nat} (h : Lx w g s i) (b : Below w.heap.size w W) : Lx W g s i := ⟨box_next h.box b, h.i, h.n⟩
theorem cells4 {W : World} {g : Nat} {x y z u : Value} {T : TypeId} (h : W.heap[g]? = some (.cells #[x, y, z, u] T (0, 0))) : (W.cell? ⟨g, 0, none⟩ = some x ∧ W.cell? ⟨g, 1, none⟩ = some y) ∧ W.cell? ⟨g, 2, none⟩ = some z ∧ W.cell? ⟨g, 3, none⟩ = some u :=
  ⟨⟨by rw [Lib.cell_of_heap h]; rfl, by rw [Lib.cell_of_heap h]; rfl⟩, by rw [Lib.cell_of_heap h]; rfl, by rw [Lib.cell_of_heap h]; rfl⟩
theorem run_step {p : UInt8 → Bool} {t : List UInt8} {k : Nat} (hk : k < t.length) (ha : (t.take k).all p = true) : runLen p t = if p t[k] then runLen p t else k := by
  split
  · rfl
  · rename_i h
    have hz : ∀ (k : Nat) (t : List UInt8) (hk : k < t.length), (t.take k).all p = true → p t[k] = false → runLen p t = k := by
      intro k
      induction k with
      | zero =>
        intro t hk _ hp
        match t, hk with
        | c :: r, _ => unfold runLen; rw [if_neg (by simpa using hp)]
      | succ k ih =>
        intro t hk ha hp
        match t, hk with
        | c :: r, hk =>
          simp only [List.take_succ_cons, List.all_cons, Bool.and_eq_true] at ha
          unfold runLen
          rw [if_pos ha.1, ih r (by simpa using hk) ha.2 (by simpa using hp)]
    exact hz k t hk ha (by simpa using h)
theorem run_all {p : UInt8 → Bool} : ∀ {t : List UInt8}, t.all p = true → runLen p t = t.length
  | [], _ => rfl
  | c :: r, h => by
    simp only [List.all_cons, Bool.and_eq_true] at h
    unfold runLen
    rw [if_pos h.1, run_all h.2]
    rfl
theorem all_snoc {p : UInt8 → Bool} {t : List UInt8} {k : Nat} (hk : k < t.length) (ha : (t.take k).all p = true) (hp : p t[k] = true) : (t.take (k + 1)).all p = true := by
  rw [List.take_succ_eq_append_getElem hk, List.all_append, ha]; simp [hp]
set_option maxHeartbeats 1000000 in
set_option maxRecDepth 100000 in
theorem run_blank (g : Nat) (s : List UInt8) (i : Nat) (w : World) (h : Lx w g s i) : Calls Try.prog 55 #[.pointer (some ⟨g, 0, none⟩), .func (.func 56) #[] #[]] w fun e w' => e = .returned (.int .i64 (runLen blankC (s.drop i) : Int)) ∧ Below w.heap.size w w' := by
  have hi := h.i
  have hn := h.n
  have HL := Lib.hid h
  have hsz : (ByteArray.mk s.toArray).size = s.length := by simp [ByteArray.size]
  clear h
  go_enter Try.func55, Try.ntmps55
  go_wp2_with fail
  go_loopw [4] (fun v wr => ∃ k : Nat, i + k ≤ s.length ∧ v = .int .i64 k ∧ Hid (((s.drop i).take k).all blankC = true) ∧ Below w.heap.size w wr) (fun v _ => s.length - (intOf v).toNat)
  case atStart => exact ⟨0, by omega, rfl, Lib.hid (by simp), Below.refl _ _⟩
  case round =>
    obtain ⟨k, hk, rfl, H, hb⟩ := hrel
    obtain ⟨m, hm⟩ : ∃ m, i + k = m := ⟨_, rfl⟩
    have hwr : IntKind.i64.wrap ((i : Int) + (k : Int)) = (m : Int) := by rw [IntWalk.i64_in _ (by omega)]; omega
    by_cases hlt : m < s.length
    · have hlt' : k < (s.drop i).length := by simp; omega
      have hst := Lib.hid (all_snoc (p := blankC) hlt' H.out)
      have hno := Lib.hid (run_step (p := blankC) hlt' H.out)
      generalize hc : (s.drop i)[k] = c at hst hno
      rw [List.getElem_drop] at hc
      have hx := ba_at s m hlt (by simpa only [hm] using hc)
      have d1 : decide ((m : Int) < (s.length : Int)) = true := by simp; omega
      have d2 : decide (m < s.length) = true := by simp; omega
      have hm1 : i + k ≤ m ∧ m ≤ i + k := by omega
      clear hm hc
      go_wp2_with fail
      refine wp_region_sched [(0, true), (1, true), (2, true), (3, true), (4, true), (5, true), (6, true), (7, true), (8, true), (9, true), (10, true), (11, true), (12, true), (13, true), (14, true), (15, true), (16, true), (17, true), (18, true), (19, true), (20, true), (21, true), (22, true), (23, true), (24, true), (25, true), (26, true), (27, false), (28, true)] (by kernel_rfl) (by kernel_rfl) (fun _ _ d _ _ h => by cases d <;> exact h) ?_
      refine swith (fun W hW => (cells4 (HL.out.next (hb.drew.trans (hW.out.mono hb.size))).box)) (fun q => ?_)
      repeat (first | (refine sreadx rfl rfl ?_; apply Exists.intro; apply And.intro; (· (intro W hW; first | (go_simp; done) | (go_simp; with_reducible rfl) | (go_simp; rw [if_neg (by omega)]; done) | (go_simp; rw [if_neg (by omega)]; with_reducible rfl))); simp only [Act.put, List.setIfInBounds_toArray, List.set_cons_zero, List.set_cons_succ]) | (refine sskip rfl rfl ?_; simp only [Act.put, List.setIfInBounds_toArray, List.set_cons_zero, List.set_cons_succ]))
      refine scall rfl rfl (fun K hK => ?_)
      go_simp
      refine (lblank_any c _).mono ?_; rintro e w2 ⟨rfl, rfl⟩
      go_wp2_with fail
      refine hK.out _ _ (by exact Grow.refl _) ?_
      clear hK K
      try simp only [Act.put, List.setIfInBounds_toArray, List.set_cons_zero, List.set_cons_succ]
      cases hp : blankC c
      · have hno' := Lib.hid (hno.out.trans (if_neg (by simp [hp])))
        repeat (first | (refine sreadx rfl rfl ?_; apply Exists.intro; apply And.intro; (· (intro W hW; first | (go_simp; done) | (go_simp; with_reducible rfl) | (go_simp; rw [if_neg (by omega)]; done) | (go_simp; rw [if_neg (by omega)]; with_reducible rfl))); simp only [Act.put, List.setIfInBounds_toArray, List.set_cons_zero, List.set_cons_succ]) | (refine sskip rfl rfl ?_; simp only [Act.put, List.setIfInBounds_toArray, List.set_cons_zero, List.set_cons_succ]))
        refine sdone ?_
        clear q hwr
        go_wp2_with fail
        go_ret
        exact ⟨by rw [hno'.out]; rfl, hb.drew⟩
      · have hst' := Lib.hid (hst.out hp)
        repeat (first | (refine sreadx rfl rfl ?_; apply Exists.intro; apply And.intro; (· (intro W hW; first | (go_simp; done) | (go_simp; with_reducible rfl) | (go_simp; rw [if_neg (by omega)]; done) | (go_simp; rw [if_neg (by omega)]; with_reducible rfl))); simp only [Act.put, List.setIfInBounds_toArray, List.set_cons_zero, List.set_cons_succ]) | (refine sskip rfl rfl ?_; simp only [Act.put, List.setIfInBounds_toArray, List.set_cons_zero, List.set_cons_succ]))
        refine sdone ?_
        clear q hwr
        go_wp2_with fail
        go_roundw
        case rel => exact ⟨k + 1, by omega, by go_num, hst', hb.drew⟩
        case measure => simp [intOf]; omega
    · have d1 : decide ((m : Int) < (s.length : Int)) = false := by simp; omega
      have d2 : decide (m < s.length) = false := by simp; omega
      have hm1 : i + k ≤ m ∧ m ≤ i + k := by omega
      clear hm
      go_wp2_with fail
      refine wp_region_sched [(0, true), (1, true), (2, true), (3, true), (4, true), (5, true), (6, true), (7, true), (8, true), (9, true), (10, true), (11, true), (12, true), (13, true), (14, true), (15, true), (16, true), (17, true), (18, true), (19, true), (20, true), (21, true), (22, true), (23, true), (24, true), (25, true), (26, true), (27, false), (28, true)] (by kernel_rfl) (by kernel_rfl) (fun _ _ d _ _ h => by cases d <;> exact h) ?_
      refine swith (fun W hW => (cells4 (HL.out.next (hb.drew.trans (hW.out.mono hb.size))).box)) (fun q => ?_)
      repeat (first | (refine sreadx rfl rfl ?_; apply Exists.intro; apply And.intro; (· (intro W hW; first | (go_simp; done) | (go_simp; with_reducible rfl) | (go_simp; rw [if_neg (by omega)]; done) | (go_simp; rw [if_neg (by omega)]; with_reducible rfl))); simp only [Act.put, List.setIfInBounds_toArray, List.set_cons_zero, List.set_cons_succ]) | (refine sskip rfl rfl ?_; simp only [Act.put, List.setIfInBounds_toArray, List.set_cons_zero, List.set_cons_succ]))
      refine sdone ?_
      clear q hwr
      go_wp2_with fail
      go_ret
      have he : runLen blankC (s.drop i) = k := by
        have h1 := H.out
        rw [List.take_of_length_le (by simp; omega)] at h1
        rw [run_all h1]; simp; omega
      exact ⟨by rw [he]; rfl, hb.drew⟩
set_option maxHeartbeats 1000000 in
set_option maxRecDepth 100000 in
theorem run_note (g : Nat) (s : List UInt8) (i : Nat) (w : World) (h : Lx w g s i) : Calls Try.prog 55 #[.pointer (some ⟨g, 0, none⟩), .func (.func 57) #[] #[]] w fun e w' => e = .returned (.int .i64 (runLen noteC (s.drop i) : Int)) ∧ Below w.heap.size w w' := by
  have hi := h.i
  have hn := h.n
  have HL := Lib.hid h
  have hsz : (ByteArray.mk s.toArray).size = s.length := by simp [ByteArray.size]
  clear h
  go_enter Try.func55, Try.ntmps55
  go_wp2_with fail
  go_loopw [4] (fun v wr => ∃ k : Nat, i + k ≤ s.length ∧ v = .int .i64 k ∧ Hid (((s.drop i).take k).all noteC = true) ∧ Below w.heap.size w wr) (fun v _ => s.length - (intOf v).toNat)
  case atStart => exact ⟨0, by omega, rfl, Lib.hid (by simp), Below.refl _ _⟩
  case round =>
    obtain ⟨k, hk, rfl, H, hb⟩ := hrel
    obtain ⟨m, hm⟩ : ∃ m, i + k = m := ⟨_, rfl⟩
    have hwr : IntKind.i64.wrap ((i : Int) + (k : Int)) = (m : Int) := by rw [IntWalk.i64_in _ (by omega)]; omega
    by_cases hlt : m < s.length
    · have hlt' : k < (s.drop i).length := by simp; omega
      have hst := Lib.hid (all_snoc (p := noteC) hlt' H.out)
      have hno := Lib.hid (run_step (p := noteC) hlt' H.out)
      generalize hc : (s.drop i)[k] = c at hst hno
      rw [List.getElem_drop] at hc
      have hx := ba_at s m hlt (by simpa only [hm] using hc)
      have d1 : decide ((m : Int) < (s.length : Int)) = true := by simp; omega
      have d2 : decide (m < s.length) = true := by simp; omega
      have hm1 : i + k ≤ m ∧ m ≤ i + k := by omega
      clear hm hc
      go_wp2_with fail
      refine wp_region_sched [(0, true), (1, true), (2, true), (3, true), (4, true), (5, true), (6, true), (7, true), (8, true), (9, true), (10, true), (11, true), (12, true), (13, true), (14, true), (15, true), (16, true), (17, true), (18, true), (19, true), (20, true), (21, true), (22, true), (23, true), (24, true), (25, true), (26, true), (27, false), (28, true)] (by kernel_rfl) (by kernel_rfl) (fun _ _ d _ _ h => by cases d <;> exact h) ?_
      refine swith (fun W hW => (cells4 (HL.out.next (hb.drew.trans (hW.out.mono hb.size))).box)) (fun q => ?_)
      repeat (first | (refine sreadx rfl rfl ?_; apply Exists.intro; apply And.intro; (· (intro W hW; first | (go_simp; done) | (go_simp; with_reducible rfl) | (go_simp; rw [if_neg (by omega)]; done) | (go_simp; rw [if_neg (by omega)]; with_reducible rfl))); simp only [Act.put, List.setIfInBounds_toArray, List.set_cons_zero, List.set_cons_succ]) | (refine sskip rfl rfl ?_; simp only [Act.put, List.setIfInBounds_toArray, List.set_cons_zero, List.set_cons_succ]))
      refine scall rfl rfl (fun K hK => ?_)
      go_simp
      refine (lnote_any c _).mono ?_; rintro e w2 ⟨rfl, rfl⟩
      go_wp2_with fail
      refine hK.out _ _ (by exact Grow.refl _) ?_
      clear hK K
      try simp only [Act.put, List.setIfInBounds_toArray, List.set_cons_zero, List.set_cons_succ]
      cases hp : noteC c
      · have hno' := Lib.hid (hno.out.trans (if_neg (by simp [hp])))
        repeat (first | (refine sreadx rfl rfl ?_; apply Exists.intro; apply And.intro; (· (intro W hW; first | (go_simp; done) | (go_simp; with_reducible rfl) | (go_simp; rw [if_neg (by omega)]; done) | (go_simp; rw [if_neg (by omega)]; with_reducible rfl))); simp only [Act.put, List.setIfInBounds_toArray, List.set_cons_zero, List.set_cons_succ]) | (refine sskip rfl rfl ?_; simp only [Act.put, List.setIfInBounds_toArray, List.set_cons_zero, List.set_cons_succ]))
        refine sdone ?_
        clear q hwr
        go_wp2_with fail
        go_ret
        exact ⟨by rw [hno'.out]; rfl, hb.drew⟩
      · have hst' := Lib.hid (hst.out hp)
        repeat (first | (refine sreadx rfl rfl ?_; apply Exists.intro; apply And.intro; (· (intro W hW; first | (go_simp; done) | (go_simp; with_reducible rfl) | (go_simp; rw [if_neg (by omega)]; done) | (go_simp; rw [if_neg (by omega)]; with_reducible rfl))); simp only [Act.put, List.setIfInBounds_toArray, List.set_cons_zero, List.set_cons_succ]) | (refine sskip rfl rfl ?_; simp only [Act.put, List.setIfInBounds_toArray, List.set_cons_zero, List.set_cons_succ]))
        refine sdone ?_
        clear q hwr
        go_wp2_with fail
        go_roundw
        case rel => exact ⟨k + 1, by omega, by go_num, hst', hb.drew⟩
        case measure => simp [intOf]; omega
    · have d1 : decide ((m : Int) < (s.length : Int)) = false := by simp; omega
      have d2 : decide (m < s.length) = false := by simp; omega
      have hm1 : i + k ≤ m ∧ m ≤ i + k := by omega
      clear hm
      go_wp2_with fail
      refine wp_region_sched [(0, true), (1, true), (2, true), (3, true), (4, true), (5, true), (6, true), (7, true), (8, true), (9, true), (10, true), (11, true), (12, true), (13, true), (14, true), (15, true), (16, true), (17, true), (18, true), (19, true), (20, true), (21, true), (22, true), (23, true), (24, true), (25, true), (26, true), (27, false), (28, true)] (by kernel_rfl) (by kernel_rfl) (fun _ _ d _ _ h => by cases d <;> exact h) ?_
      refine swith (fun W hW => (cells4 (HL.out.next (hb.drew.trans (hW.out.mono hb.size))).box)) (fun q => ?_)
      repeat (first | (refine sreadx rfl rfl ?_; apply Exists.intro; apply And.intro; (· (intro W hW; first | (go_simp; done) | (go_simp; with_reducible rfl) | (go_simp; rw [if_neg (by omega)]; done) | (go_simp; rw [if_neg (by omega)]; with_reducible rfl))); simp only [Act.put, List.setIfInBounds_toArray, List.set_cons_zero, List.set_cons_succ]) | (refine sskip rfl rfl ?_; simp only [Act.put, List.setIfInBounds_toArray, List.set_cons_zero, List.set_cons_succ]))
      refine sdone ?_
      clear q hwr
      go_wp2_with fail
      go_ret
      have he : runLen noteC (s.drop i) = k := by
        have h1 := H.out
        rw [List.take_of_length_le (by simp; omega)] at h1
        rw [run_all h1]; simp; omega
      exact ⟨by rw [he]; rfl, hb.drew⟩
set_option maxHeartbeats 1000000 in
set_option maxRecDepth 100000 in
theorem run_word (g : Nat) (s : List UInt8) (i : Nat) (w : World) (h : Lx w g s i) : Calls Try.prog 55 #[.pointer (some ⟨g, 0, none⟩), .func (.func 60) #[] #[]] w fun e w' => e = .returned (.int .i64 (runLen wordC (s.drop i) : Int)) ∧ Below w.heap.size w w' := by
  have hi := h.i
  have hn := h.n
  have HL := Lib.hid h
  have hsz : (ByteArray.mk s.toArray).size = s.length := by simp [ByteArray.size]
  clear h
  go_enter Try.func55, Try.ntmps55
  go_wp2_with fail
  go_loopw [4] (fun v wr => ∃ k : Nat, i + k ≤ s.length ∧ v = .int .i64 k ∧ Hid (((s.drop i).take k).all wordC = true) ∧ Below w.heap.size w wr) (fun v _ => s.length - (intOf v).toNat)
  case atStart => exact ⟨0, by omega, rfl, Lib.hid (by simp), Below.refl _ _⟩
  case round =>
    obtain ⟨k, hk, rfl, H, hb⟩ := hrel
    obtain ⟨m, hm⟩ : ∃ m, i + k = m := ⟨_, rfl⟩
    have hwr : IntKind.i64.wrap ((i : Int) + (k : Int)) = (m : Int) := by rw [IntWalk.i64_in _ (by omega)]; omega
    by_cases hlt : m < s.length
    · have hlt' : k < (s.drop i).length := by simp; omega
      have hst := Lib.hid (all_snoc (p := wordC) hlt' H.out)
      have hno := Lib.hid (run_step (p := wordC) hlt' H.out)
      generalize hc : (s.drop i)[k] = c at hst hno
      rw [List.getElem_drop] at hc
      have hx := ba_at s m hlt (by simpa only [hm] using hc)
      have d1 : decide ((m : Int) < (s.length : Int)) = true := by simp; omega
      have d2 : decide (m < s.length) = true := by simp; omega
      have hm1 : i + k ≤ m ∧ m ≤ i + k := by omega
      clear hm hc
      go_wp2_with fail
      refine wp_region_sched [(0, true), (1, true), (2, true), (3, true), (4, true), (5, true), (6, true), (7, true), (8, true), (9, true), (10, true), (11, true), (12, true), (13, true), (14, true), (15, true), (16, true), (17, true), (18, true), (19, true), (20, true), (21, true), (22, true), (23, true), (24, true), (25, true), (26, true), (27, false), (28, true)] (by kernel_rfl) (by kernel_rfl) (fun _ _ d _ _ h => by cases d <;> exact h) ?_
      refine swith (fun W hW => (cells4 (HL.out.next (hb.drew.trans (hW.out.mono hb.size))).box)) (fun q => ?_)
      repeat (first | (refine sreadx rfl rfl ?_; apply Exists.intro; apply And.intro; (· (intro W hW; first | (go_simp; done) | (go_simp; with_reducible rfl) | (go_simp; rw [if_neg (by omega)]; done) | (go_simp; rw [if_neg (by omega)]; with_reducible rfl))); simp only [Act.put, List.setIfInBounds_toArray, List.set_cons_zero, List.set_cons_succ]) | (refine sskip rfl rfl ?_; simp only [Act.put, List.setIfInBounds_toArray, List.set_cons_zero, List.set_cons_succ]))
      refine scall rfl rfl (fun K hK => ?_)
      go_simp
      refine (lword_any c _).mono ?_; rintro e w2 ⟨rfl, rfl⟩
      go_wp2_with fail
      refine hK.out _ _ (by exact Grow.refl _) ?_
      clear hK K
      try simp only [Act.put, List.setIfInBounds_toArray, List.set_cons_zero, List.set_cons_succ]
      cases hp : wordC c
      · have hno' := Lib.hid (hno.out.trans (if_neg (by simp [hp])))
        repeat (first | (refine sreadx rfl rfl ?_; apply Exists.intro; apply And.intro; (· (intro W hW; first | (go_simp; done) | (go_simp; with_reducible rfl) | (go_simp; rw [if_neg (by omega)]; done) | (go_simp; rw [if_neg (by omega)]; with_reducible rfl))); simp only [Act.put, List.setIfInBounds_toArray, List.set_cons_zero, List.set_cons_succ]) | (refine sskip rfl rfl ?_; simp only [Act.put, List.setIfInBounds_toArray, List.set_cons_zero, List.set_cons_succ]))
        refine sdone ?_
        clear q hwr
        go_wp2_with fail
        go_ret
        exact ⟨by rw [hno'.out]; rfl, hb.drew⟩
      · have hst' := Lib.hid (hst.out hp)
        repeat (first | (refine sreadx rfl rfl ?_; apply Exists.intro; apply And.intro; (· (intro W hW; first | (go_simp; done) | (go_simp; with_reducible rfl) | (go_simp; rw [if_neg (by omega)]; done) | (go_simp; rw [if_neg (by omega)]; with_reducible rfl))); simp only [Act.put, List.setIfInBounds_toArray, List.set_cons_zero, List.set_cons_succ]) | (refine sskip rfl rfl ?_; simp only [Act.put, List.setIfInBounds_toArray, List.set_cons_zero, List.set_cons_succ]))
        refine sdone ?_
        clear q hwr
        go_wp2_with fail
        go_roundw
        case rel => exact ⟨k + 1, by omega, by go_num, hst', hb.drew⟩
        case measure => simp [intOf]; omega
    · have d1 : decide ((m : Int) < (s.length : Int)) = false := by simp; omega
      have d2 : decide (m < s.length) = false := by simp; omega
      have hm1 : i + k ≤ m ∧ m ≤ i + k := by omega
      clear hm
      go_wp2_with fail
      refine wp_region_sched [(0, true), (1, true), (2, true), (3, true), (4, true), (5, true), (6, true), (7, true), (8, true), (9, true), (10, true), (11, true), (12, true), (13, true), (14, true), (15, true), (16, true), (17, true), (18, true), (19, true), (20, true), (21, true), (22, true), (23, true), (24, true), (25, true), (26, true), (27, false), (28, true)] (by kernel_rfl) (by kernel_rfl) (fun _ _ d _ _ h => by cases d <;> exact h) ?_
      refine swith (fun W hW => (cells4 (HL.out.next (hb.drew.trans (hW.out.mono hb.size))).box)) (fun q => ?_)
      repeat (first | (refine sreadx rfl rfl ?_; apply Exists.intro; apply And.intro; (· (intro W hW; first | (go_simp; done) | (go_simp; with_reducible rfl) | (go_simp; rw [if_neg (by omega)]; done) | (go_simp; rw [if_neg (by omega)]; with_reducible rfl))); simp only [Act.put, List.setIfInBounds_toArray, List.set_cons_zero, List.set_cons_succ]) | (refine sskip rfl rfl ?_; simp only [Act.put, List.setIfInBounds_toArray, List.set_cons_zero, List.set_cons_succ]))
      refine sdone ?_
      clear q hwr
      go_wp2_with fail
      go_ret
      have he : runLen wordC (s.drop i) = k := by
        have h1 := H.out
        rw [List.take_of_length_le (by simp; omega)] at h1
        rw [run_all h1]; simp; omega
      exact ⟨by rw [he]; rfl, hb.drew⟩
set_option maxHeartbeats 1000000 in
set_option maxRecDepth 100000 in
theorem run_digit (g : Nat) (s : List UInt8) (i : Nat) (w : World) (h : Lx w g s i) : Calls Try.prog 55 #[.pointer (some ⟨g, 0, none⟩), .func (.func 61) #[] #[]] w fun e w' => e = .returned (.int .i64 (runLen digitC (s.drop i) : Int)) ∧ Below w.heap.size w w' := by
  have hi := h.i
  have hn := h.n
  have HL := Lib.hid h
  have hsz : (ByteArray.mk s.toArray).size = s.length := by simp [ByteArray.size]
  clear h
  go_enter Try.func55, Try.ntmps55
  go_wp2_with fail
  go_loopw [4] (fun v wr => ∃ k : Nat, i + k ≤ s.length ∧ v = .int .i64 k ∧ Hid (((s.drop i).take k).all digitC = true) ∧ Below w.heap.size w wr) (fun v _ => s.length - (intOf v).toNat)
  case atStart => exact ⟨0, by omega, rfl, Lib.hid (by simp), Below.refl _ _⟩
  case round =>
    obtain ⟨k, hk, rfl, H, hb⟩ := hrel
    obtain ⟨m, hm⟩ : ∃ m, i + k = m := ⟨_, rfl⟩
    have hwr : IntKind.i64.wrap ((i : Int) + (k : Int)) = (m : Int) := by rw [IntWalk.i64_in _ (by omega)]; omega
    by_cases hlt : m < s.length
    · have hlt' : k < (s.drop i).length := by simp; omega
      have hst := Lib.hid (all_snoc (p := digitC) hlt' H.out)
      have hno := Lib.hid (run_step (p := digitC) hlt' H.out)
      generalize hc : (s.drop i)[k] = c at hst hno
      rw [List.getElem_drop] at hc
      have hx := ba_at s m hlt (by simpa only [hm] using hc)
      have d1 : decide ((m : Int) < (s.length : Int)) = true := by simp; omega
      have d2 : decide (m < s.length) = true := by simp; omega
      have hm1 : i + k ≤ m ∧ m ≤ i + k := by omega
      clear hm hc
      go_wp2_with fail
      refine wp_region_sched [(0, true), (1, true), (2, true), (3, true), (4, true), (5, true), (6, true), (7, true), (8, true), (9, true), (10, true), (11, true), (12, true), (13, true), (14, true), (15, true), (16, true), (17, true), (18, true), (19, true), (20, true), (21, true), (22, true), (23, true), (24, true), (25, true), (26, true), (27, false), (28, true)] (by kernel_rfl) (by kernel_rfl) (fun _ _ d _ _ h => by cases d <;> exact h) ?_
      refine swith (fun W hW => (cells4 (HL.out.next (hb.drew.trans (hW.out.mono hb.size))).box)) (fun q => ?_)
      repeat (first | (refine sreadx rfl rfl ?_; apply Exists.intro; apply And.intro; (· (intro W hW; first | (go_simp; done) | (go_simp; with_reducible rfl) | (go_simp; rw [if_neg (by omega)]; done) | (go_simp; rw [if_neg (by omega)]; with_reducible rfl))); simp only [Act.put, List.setIfInBounds_toArray, List.set_cons_zero, List.set_cons_succ]) | (refine sskip rfl rfl ?_; simp only [Act.put, List.setIfInBounds_toArray, List.set_cons_zero, List.set_cons_succ]))
      refine scall rfl rfl (fun K hK => ?_)
      go_simp
      refine (ldigit_any c _).mono ?_; rintro e w2 ⟨rfl, rfl⟩
      go_wp2_with fail
      refine hK.out _ _ (by exact Grow.refl _) ?_
      clear hK K
      try simp only [Act.put, List.setIfInBounds_toArray, List.set_cons_zero, List.set_cons_succ]
      cases hp : digitC c
      · have hno' := Lib.hid (hno.out.trans (if_neg (by simp [hp])))
        repeat (first | (refine sreadx rfl rfl ?_; apply Exists.intro; apply And.intro; (· (intro W hW; first | (go_simp; done) | (go_simp; with_reducible rfl) | (go_simp; rw [if_neg (by omega)]; done) | (go_simp; rw [if_neg (by omega)]; with_reducible rfl))); simp only [Act.put, List.setIfInBounds_toArray, List.set_cons_zero, List.set_cons_succ]) | (refine sskip rfl rfl ?_; simp only [Act.put, List.setIfInBounds_toArray, List.set_cons_zero, List.set_cons_succ]))
        refine sdone ?_
        clear q hwr
        go_wp2_with fail
        go_ret
        exact ⟨by rw [hno'.out]; rfl, hb.drew⟩
      · have hst' := Lib.hid (hst.out hp)
        repeat (first | (refine sreadx rfl rfl ?_; apply Exists.intro; apply And.intro; (· (intro W hW; first | (go_simp; done) | (go_simp; with_reducible rfl) | (go_simp; rw [if_neg (by omega)]; done) | (go_simp; rw [if_neg (by omega)]; with_reducible rfl))); simp only [Act.put, List.setIfInBounds_toArray, List.set_cons_zero, List.set_cons_succ]) | (refine sskip rfl rfl ?_; simp only [Act.put, List.setIfInBounds_toArray, List.set_cons_zero, List.set_cons_succ]))
        refine sdone ?_
        clear q hwr
        go_wp2_with fail
        go_roundw
        case rel => exact ⟨k + 1, by omega, by go_num, hst', hb.drew⟩
        case measure => simp [intOf]; omega
    · have d1 : decide ((m : Int) < (s.length : Int)) = false := by simp; omega
      have d2 : decide (m < s.length) = false := by simp; omega
      have hm1 : i + k ≤ m ∧ m ≤ i + k := by omega
      clear hm
      go_wp2_with fail
      refine wp_region_sched [(0, true), (1, true), (2, true), (3, true), (4, true), (5, true), (6, true), (7, true), (8, true), (9, true), (10, true), (11, true), (12, true), (13, true), (14, true), (15, true), (16, true), (17, true), (18, true), (19, true), (20, true), (21, true), (22, true), (23, true), (24, true), (25, true), (26, true), (27, false), (28, true)] (by kernel_rfl) (by kernel_rfl) (fun _ _ d _ _ h => by cases d <;> exact h) ?_
      refine swith (fun W hW => (cells4 (HL.out.next (hb.drew.trans (hW.out.mono hb.size))).box)) (fun q => ?_)
      repeat (first | (refine sreadx rfl rfl ?_; apply Exists.intro; apply And.intro; (· (intro W hW; first | (go_simp; done) | (go_simp; with_reducible rfl) | (go_simp; rw [if_neg (by omega)]; done) | (go_simp; rw [if_neg (by omega)]; with_reducible rfl))); simp only [Act.put, List.setIfInBounds_toArray, List.set_cons_zero, List.set_cons_succ]) | (refine sskip rfl rfl ?_; simp only [Act.put, List.setIfInBounds_toArray, List.set_cons_zero, List.set_cons_succ]))
      refine sdone ?_
      clear q hwr
      go_wp2_with fail
      go_ret
      have he : runLen digitC (s.drop i) = k := by
        have h1 := H.out
        rw [List.take_of_length_le (by simp; omega)] at h1
        rw [run_all h1]; simp; omega
      exact ⟨by rw [he]; rfl, hb.drew⟩
end Go.Proofs.Ytpodniljpinigaa.X
