/- Texts in quotes: plain laws of quoS, and the contract of the lexer's quoted. -/
import Derived.Test.YtpodniljpinigaaLexSign
import Derived.Test.YtpodniljpinigaaValText
namespace Go.Proofs.Ytpodniljpinigaa.X
open Go.RowKit O V S

theorem quoS_cons (c : UInt8) (l : List UInt8) (k : Nat) (q : Quo) : quoS (c :: l) k q = if c.toNat = 34 then some ⟨k, q.s, q.bad⟩ else if c.toNat = 92 then (match l with | [] => none | d :: r => quoS r (k + 2) ⟨0, q.s ++ [d], orE q.bad (if (!escC d || wrongC d) = true then some (k + 1) else none)⟩) else quoS l (k + 1) ⟨0, q.s ++ [c], orE q.bad (if wrongC c = true then some k else none)⟩ := by
  match l with
  | [] =>
    have h0 : quoS [c] k q = if c.toNat = 34 then some ⟨k, q.s, q.bad⟩ else none := by rw [quoS]
    rw [h0]
    split
    · rfl
    · split
      · rfl
      · rw [quoS]
  | d :: r => rw [quoS]
theorem quoS_nil (k : Nat) (q : Quo) : quoS [] k q = none := by rw [quoS]
section
variable {t : List UInt8} {k : Nat}
theorem qs_end (h : t.length ≤ k) (k' : Nat) (q : Quo) : quoS (t.drop k) k' q = none := by rw [List.drop_of_length_le h, quoS_nil]
theorem qs_quote (h : k < t.length) (hc : (t[k]).toNat = 34) (q : Quo) : quoS (t.drop k) k q = some ⟨k, q.s, q.bad⟩ := by
  rw [List.drop_eq_getElem_cons h, quoS_cons, if_pos hc]
theorem qs_esc (h : k + 1 < t.length) (hc : (t[k]).toNat = 92) (q : Quo) : quoS (t.drop k) k q = quoS (t.drop (k + 2)) (k + 2) ⟨0, q.s ++ [t[k + 1]], orE q.bad (if (!escC t[k + 1] || wrongC t[k + 1]) = true then some (k + 1) else none)⟩ := by
  rw [List.drop_eq_getElem_cons (by omega : k < t.length), quoS_cons, if_neg (by omega), if_pos hc, List.drop_eq_getElem_cons h]
theorem qs_esc_end (h : k + 1 = t.length) (hc : (t[k]'(by omega)).toNat = 92) (q : Quo) : quoS (t.drop k) k q = none := by
  rw [List.drop_eq_getElem_cons (by omega : k < t.length), quoS_cons, if_neg (by omega), if_pos hc, List.drop_of_length_le (by omega)]
theorem qs_go (h : k < t.length) (h1 : (t[k]).toNat ≠ 34) (h2 : (t[k]).toNat ≠ 92) (q : Quo) : quoS (t.drop k) k q = quoS (t.drop (k + 1)) (k + 1) ⟨0, q.s ++ [t[k]], orE q.bad (if wrongC t[k] = true then some k else none)⟩ := by
  rw [List.drop_eq_getElem_cons h, quoS_cons, if_neg h1, if_neg h2]
end
theorem qs_n : ∀ (n : Nat) (l : List UInt8), l.length ≤ n → ∀ (k : Nat) (q q' : Quo), (quoS l k q).map (·.n) = (quoS l k q').map (·.n)
  | _, [], _, k, q, q' => by rw [quoS_nil, quoS_nil]
  | 0, c :: l, h, _, _, _ => by simp at h
  | n + 1, c :: l, h, k, q, q' => by
    simp at h
    rw [quoS_cons, quoS_cons c l k q']
    split
    · rfl
    · split
      · match l, h with
        | [], _ => rfl
        | d :: r, h => exact qs_n n r (by simp at h; omega) _ _ _
      · exact qs_n n l h _ _ _
theorem qs_bad : ∀ (n : Nat) (l : List UInt8), l.length ≤ n → ∀ (k : Nat) (q Q : Quo) (b : Nat), q.bad = some b → quoS l k q = some Q → Q.bad = some b
  | _, [], _, k, q, Q, b, _, h => by rw [quoS_nil] at h; cases h
  | 0, c :: l, h, _, _, _, _, _, _ => by simp at h
  | n + 1, c :: l, h, k, q, Q, b, hb, hq => by
    simp at h
    rw [quoS_cons] at hq
    split at hq
    · cases hq; exact hb
    · split at hq
      · match l, h with
        | [], _ => cases hq
        | d :: r, h => exact qs_bad n r (by simp at h; omega) _ _ _ _ (by simp [hb, orE]) hq
      · exact qs_bad n l h _ _ _ _ (by simp [hb, orE]) hq
theorem qs_lt : ∀ (n : Nat) (l : List UInt8), l.length ≤ n → ∀ (k : Nat) (q Q : Quo), quoS l k q = some Q → k ≤ Q.n ∧ Q.n < k + l.length ∧ Q.s.length ≤ q.s.length + l.length
  | _, [], _, k, q, Q, h => by rw [quoS_nil] at h; cases h
  | 0, c :: l, h, _, _, _, _ => by simp at h
  | n + 1, c :: l, h, k, q, Q, hq => by
    simp at h
    rw [quoS_cons] at hq
    split at hq
    · cases hq; simp
    · split at hq
      · match l, h with
        | [], _ => cases hq
        | d :: r, h =>
          have := qs_lt n r (by simp at h; omega) _ _ _ hq
          simp at this ⊢; omega
      · have := qs_lt n l h _ _ _ hq
        simp at this ⊢; omega
theorem blen_any {g : Nat} {l : List UInt8} {w : World} (h : Bld g l w) : Calls Try.prog 81 #[.pointer (some ⟨g, 0, none⟩)] w fun e w' => e = .returned (.int .i64 (l.length : Int)) ∧ w = w' := by
  have hc : ∃ A c, w.cell? ⟨g, 1, none⟩ = some (.slice A l.length c) := by
    have hb : ∀ p, Lib.BuilderAt 94 5 g g p (bv l) w → ∃ A c, w.cell? ⟨g, 1, none⟩ = some (.slice A l.length c) := by
      rintro p ⟨_, v, hb, ⟨_, hv⟩, _⟩
      have hbl : (bv l).length = l.length := by simp [bv]
      rw [hbl] at hv
      rcases hv with ⟨rfl, hn⟩ | ⟨g', cap, cur, rfl, _⟩
      · exact ⟨none, 0, by rw [Lib.cell_of_heap hb, hn]; rfl⟩
      · exact ⟨_, _, by rw [Lib.cell_of_heap hb]; rfl⟩
    rcases h with h | h
    · exact hb _ h
    · exact hb _ h
  obtain ⟨A, c, hc⟩ := hc
  go_enter Try.func81, Try.ntmps81
  go_wp2_with fail
  go_ret
  exact ⟨rfl, rfl⟩
theorem wrong_c (c : UInt8) : wrongC c = (decide ((c.toNat : Int) < 32) || decide (126 < (c.toNat : Int))) := by
  unfold wrongC
  congr 1 <;> (rw [Bool.eq_iff_iff]; simp; omega)
theorem map_n {o : Option Quo} {e : Nat} (h : o.map (·.n) = some e) : ∃ Q, o = some Q ∧ Q.n = e := by
  cases o with
  | none => simp at h
  | some Q => exact ⟨Q, rfl, by simpa using h⟩
theorem results_tmp4 {fn : Func} {t u v x : Tmp} (h : fn.results = #[.tmp t, .tmp u, .tmp v, .tmp x]) (tmps : Array Value) (P : Program) (w : World) :
    (results fn tmps).run P w = .ok (.tuple #[tmps.getD t undef, tmps.getD u undef, tmps.getD v undef, tmps.getD x undef]) w := by
  simp [results, h]
theorem quoL_bad {t : List UInt8} {Q : Quo} {k : Nat} (h : quoS (t.drop 1) 1 ⟨0, [], none⟩ = some Q) (hb : Q.bad = some k) : quoL t = ⟨10, k, 3, 0, zeroV⟩ := by
  unfold quoL
  rw [h]
  simp [hb]
theorem quoL_ok {t : List UInt8} {Q : Quo} (h : quoS (t.drop 1) 1 ⟨0, [], none⟩ = some Q) (hb : Q.bad = none) : quoL t = if Q.s.length > 32 then ⟨2, 0, 3, 0, zeroV⟩ else ⟨0, 0, 3, Q.n + 1, ⟨3, 0, Q.s⟩⟩ := by
  unfold quoL
  rw [h]
  simp [hb]
/-- What quoted hands back. -/
def RetQ (R : TokR) (i : Nat) : Ending := .returned (.tuple #[.int .i64 (R.n : Int), .string ⟨R.v.s.toArray⟩, .int .i64 R.e, .int .i64 (if R.e = 0 then 0 else ((i + R.off : Nat) : Int))])
set_option maxHeartbeats 2000000 in
set_option maxRecDepth 100000 in
theorem lquoted_any (g : Nat) (s : List UInt8) (i : Nat) (w : World) (h : Lx w g s i) (hin : i < s.length) (hq : (s[i]).toNat = 34) : Calls Try.prog 63 #[.pointer (some ⟨g, 0, none⟩)] w fun e w' => e = RetQ (quoL (s.drop i)) i ∧ Below w.heap.size w w' := by
  have hn := h.n
  have hi := h.i
  have hin' : decide (i ≤ s.length) = true := by simp; omega
  have HL := Lib.hid h
  have hgl := h.lt
  have hsz : (ByteArray.mk s.toArray).size = s.length := by simp [ByteArray.size]
  have hcut := cut_at s i (s.length - i) s.length (by omega)
  rw [List.take_of_length_le (by simp)] at hcut
  have hul : (s.drop i).length = s.length - i := by simp
  have hlt0 : 0 < (s.drop i).length := by omega
  clear h hq
  obtain ⟨t, ht⟩ : ∃ t, s.drop i = t := ⟨_, rfl⟩
  rw [ht] at hcut hul hlt0
  rw [ht]
  have HTL : Hid (i + t.length = s.length) := Lib.hid (by omega)
  have htn : t.length ≤ 20000 := by omega
  have hin1 : Hid (i < s.length) := Lib.hid hin
  clear ht hul hin
  have hsz2 : (ByteArray.mk t.toArray).size = t.length := by simp [ByteArray.size]
  obtain ⟨M, hM⟩ : ∃ M, (quoS (t.drop 1) 1 ⟨0, [], none⟩).map (·.n) = M := ⟨_, rfl⟩
  have HM := Lib.hid hM
  clear hM
  go_enter Try.func63, Try.ntmps63
  go_wp2_with fail
  refine wp_region_sched [(0, true), (1, true), (2, true), (3, true), (4, true), (5, true), (6, true), (7, true), (8, true), (9, true), (10, true)] (by kernel_rfl) (by kernel_rfl) (fun _ _ d _ _ h => by cases d <;> exact h) ?_
  refine swith (fun W hW => (cells4 (HL.out.next ((Below.refl _ _).drew.trans (hW.out.mono (Nat.le_refl _)))).box)) (fun q => ?_)
  repeat (first | (refine sreadx rfl rfl ?_; apply Exists.intro; apply And.intro; (· (intro W hW; first | (go_simp; done) | (go_simp; with_reducible rfl) | (go_simp; rw [if_neg (by omega)]; done) | (go_simp; rw [if_neg (by omega)]; with_reducible rfl))); simp only [Act.put, List.setIfInBounds_toArray, List.set_cons_zero, List.set_cons_succ]) | (refine sskip rfl rfl ?_; simp only [Act.put, List.setIfInBounds_toArray, List.set_cons_zero, List.set_cons_succ]))
  refine sdone ?_
  clear q
  clear hcut
  go_wp2_with fail
  go_loop [7] (fun v => ∃ e : Nat, 1 ≤ e ∧ e ≤ t.length + 1 ∧ v = .int .i64 e ∧ Hid ((quoS (t.drop e) e ⟨0, [], none⟩).map (·.n) = M)) (fun v => t.length + 1 - (intOf v).toNat)
  case atStart => exact ⟨1, by omega, by omega, rfl, HM⟩
  case round =>
    obtain ⟨e, he1, he2, rfl, hE⟩ := hrel
    by_cases hlt : e < t.length
    · have d1 : decide ((e : Int) < (t.length : Int)) = true := by simp; omega
      obtain ⟨c, hc⟩ : ∃ c, t[e] = c := ⟨_, rfl⟩
      have hx := ba_at t e hlt hc
      by_cases h34 : c.toNat = 34
      · have e1 : ((c.toNat : Int) != 34) = false := by simp; omega
        have e1' : ((c.toNat : Int) == 34) = true := by simp; omega
        have HQ : Hid (M = some e) := Lib.hid (by rw [← hE.out, qs_quote hlt (by rw [hc]; exact h34)]; rfl)
        have H34 := Lib.hid h34
        have HC := Lib.hid hc
        obtain ⟨Q, hQ, hQn⟩ := map_n (HM.out.trans HQ.out)
        have HQ1 := Lib.hid hQ
        have HQn := Lib.hid hQn
        clear h34 hc hQ hQn HM HQ hE
        have d2 : decide ((e : Int) ≥ (t.length : Int)) = false := by simp; omega
        have d3 : decide ((t.length : Int) ≤ (e : Int)) = false := by simp; omega
        go_wp2_with fail
        have BF := Bld.fresh w.drew
        have B0 : Below w.heap.size w (w.drew.alloc (.cells #[.pointer none, .slice none 0 0] 94)) := (Below.refl _ _).drew.alloc (Nat.le_refl _) _
        go_loopw [2, 3, 4, 5, 9] (fun _ _ _ _ v wr => ∃ (j : Nat) (b : List UInt8), 1 ≤ j ∧ j ≤ e ∧ b.length ≤ j ∧ v = .int .i64 j ∧ Hid (quoS (t.drop j) j ⟨0, b, none⟩ = some Q) ∧ Bld w.heap.size b wr ∧ Below w.heap.size w wr) (fun _ _ _ _ v _ => t.length + 1 - (intOf v).toNat)
        case atStart => exact ⟨1, [], by omega, by omega, by simp, rfl, HQ1, BF, B0⟩
        case round =>
          obtain ⟨j, b, hj1, hj2, hb1, rfl, hJ, hB, hbw⟩ := hrel
          clear BF B0
          by_cases hje : j < e
          · have f1 : decide ((j : Int) < (e : Int)) = true := by simp; omega
            have hjt : j < t.length := by omega
            obtain ⟨c, hc⟩ : ∃ c, t[j] = c := ⟨_, rfl⟩
            have hx := ba_at t j hjt hc
            have h34 : c.toNat ≠ 34 := by
              intro h
              have := hJ.out
              rw [qs_quote hjt (by rw [hc]; exact h)] at this
              injection this with this
              have hq := HQn.out
              rw [← this] at hq
              exact absurd hq (by simp; omega)
            by_cases h92 : c.toNat = 92
            · have e2 : ((c.toNat : Int) == 92) = true := by simp; omega
              have hj1t : j + 1 < t.length := by
                rcases Nat.lt_or_ge (j + 1) t.length with h | h
                · exact h
                · have := hJ.out
                  rw [qs_esc_end (t := t) (k := j) (by omega) (by rw [hc]; exact h92)] at this
                  cases this
              obtain ⟨d, hd⟩ : ∃ d, t[j + 1] = d := ⟨_, rfl⟩
              have hx2 := ba_at t (j + 1) hj1t hd
              have hJ2 := hJ.out
              rw [qs_esc hj1t (by rw [hc]; exact h92), hd] at hJ2
              have hlt2 := (qs_lt _ _ (Nat.le_refl _) _ _ _ hJ2).1
              rw [HQn.out] at hlt2
              clear hc hd h34 h92
              by_cases hesc : d.toNat = 34 ∨ d.toNat = 92
              · have hJ3 : Hid (quoS (t.drop (j + 2)) (j + 2) ⟨0, b ++ [d], none⟩ = some Q) := Lib.hid (by
                  have hw : (!escC d || wrongC d) = false := by unfold escC wrongC; rcases hesc with h | h <;> simp [h]
                  rw [hw] at hJ2
                  exact hJ2)
                have f32 : decide ((d.toNat : Int) < 32) = false := by simp; omega
                have f126 : decide ((d.toNat : Int) > 126) = false := by simp; omega
                have f126' : decide (126 < (d.toNat : Int)) = false := by simp; omega
                clear hJ2
                rcases hesc with h | h
                · have e3 : ((d.toNat : Int) != 34) = false := by simp; omega
                  have e3' : ((d.toNat : Int) == 34) = true := by simp; omega
                  clear h
                  go_wp2_with fail
                  refine (write_any hB d (by omega) (by omega)).mono ?_; rintro e w3 ⟨rfl, d3, b3⟩
                  go_wp2_with fail
                  go_roundw
                  case rel => exact ⟨j + 2, b ++ [d], by omega, by omega, by simp; omega, by go_num, hJ3, d3, Below.trans hbw b3⟩
                  case measure => simp [intOf]; omega
                · have e3 : ((d.toNat : Int) != 34) = true := by simp; omega
                  have e3' : ((d.toNat : Int) == 34) = false := by simp; omega
                  have e4 : ((d.toNat : Int) != 92) = false := by simp; omega
                  have e4' : ((d.toNat : Int) == 92) = true := by simp; omega
                  clear h
                  go_wp2_with fail
                  refine (write_any hB d (by omega) (by omega)).mono ?_; rintro e w3 ⟨rfl, d3, b3⟩
                  go_wp2_with fail
                  go_roundw
                  case rel => exact ⟨j + 2, b ++ [d], by omega, by omega, by simp; omega, by go_num, hJ3, d3, Below.trans hbw b3⟩
                  case measure => simp [intOf]; omega
              · have hbad : Hid (quoL t = ⟨10, j + 1, 3, 0, zeroV⟩) := Lib.hid (by
                  have hw : (!escC d || wrongC d) = true := by unfold escC; simp; left; omega
                  rw [hw] at hJ2
                  exact quoL_bad HQ1.out (qs_bad _ _ (Nat.le_refl _) _ _ _ (j + 1) (by simp [orE]) hJ2))
                have e3 : ((d.toNat : Int) != 34) = true := by simp; omega
                have e3' : ((d.toNat : Int) == 34) = false := by simp; omega
                have e4 : ((d.toNat : Int) != 92) = true := by simp; omega
                have e4' : ((d.toNat : Int) == 92) = false := by simp; omega
                clear hJ2 hesc
                obtain ⟨m, hm⟩ : ∃ m, i + (j + 1) = m := ⟨_, rfl⟩
                have hwr : IntKind.i64.wrap ((i : Int) + ((j : Int) + 1)) = (m : Int) := by rw [IntWalk.i64_in _ (by omega)]; omega
                have HMM := Lib.hid hm
                clear hm
                go_wp2_with fail
                refine wp_region_sched [(0, true), (1, true), (2, true), (3, true), (4, true), (5, true), (6, true), (7, true), (8, true), (9, true), (10, true)] (by kernel_rfl) (by kernel_rfl) (fun _ _ d _ _ h => by cases d <;> exact h) ?_
                refine swith (fun W hW => (cells4 (HL.out.next (hbw.drew.trans (hW.out.mono hbw.size))).box)) (fun q => ?_)
                repeat (first | (refine sreadx rfl rfl ?_; apply Exists.intro; apply And.intro; (· (intro W hW; first | (go_simp; done) | (go_simp; with_reducible rfl) | (go_simp; rw [if_neg (by omega)]; done) | (go_simp; rw [if_neg (by omega)]; with_reducible rfl))); simp only [Act.put, List.setIfInBounds_toArray, List.set_cons_zero, List.set_cons_succ]) | (refine sskip rfl rfl ?_; simp only [Act.put, List.setIfInBounds_toArray, List.set_cons_zero, List.set_cons_succ]))
                refine sdone ?_
                clear q
                go_wp2_with fail
                (try simp only [Exit.inBlock, Exit.then]); refine bodyPost_ret (results_tmp4 rfl _ _ _) rfl ?_
                refine ⟨?_, hbw.drew⟩
                rw [hbad.out]
                have := HMM.out
                unfold RetQ
                simp only [Array.getD, zeroV]
                simp
                omega
            · have e2 : ((c.toNat : Int) == 92) = false := by simp; omega
              have hJ2 := hJ.out
              rw [qs_go hjt (by rw [hc]; exact h34) (by rw [hc]; exact h92), hc] at hJ2
              have hlt2 := (qs_lt _ _ (Nat.le_refl _) _ _ _ hJ2).1
              rw [HQn.out] at hlt2
              clear hc h34 h92
              have hwc := wrong_c c
              cases hw : wrongC c
              · rw [hw] at hwc hJ2
                have hw2 := Bool.or_eq_false_iff.1 hwc.symm
                have hJ3 : Hid (quoS (t.drop (j + 1)) (j + 1) ⟨0, b ++ [c], none⟩ = some Q) := Lib.hid hJ2
                have f32 : decide ((c.toNat : Int) < 32) = false := hw2.1
                have f126 : decide ((c.toNat : Int) > 126) = false := hw2.2
                have f126' : decide (126 < (c.toNat : Int)) = false := hw2.2
                clear hJ2 hw hwc hw2
                go_wp2_with fail
                refine (write_any hB c (by omega) (by omega)).mono ?_; rintro e w3 ⟨rfl, d3, b3⟩
                go_wp2_with fail
                go_roundw
                case rel => exact ⟨j + 1, b ++ [c], by omega, by omega, by simp; omega, by go_num, hJ3, d3, Below.trans hbw b3⟩
                case measure => simp [intOf]; omega
              · have hbad : Hid (quoL t = ⟨10, j, 3, 0, zeroV⟩) := Lib.hid (by
                  rw [hw] at hJ2
                  exact quoL_bad HQ1.out (qs_bad _ _ (Nat.le_refl _) _ _ _ j (by simp [orE]) hJ2))
                rw [hw] at hwc
                clear hJ2 hw
                cases f32 : decide ((c.toNat : Int) < 32)
                · rw [f32] at hwc
                  have f126' : decide (126 < (c.toNat : Int)) = true := by simpa using hwc.symm
                  have f126 : decide ((c.toNat : Int) > 126) = true := f126'
                  clear hwc
                  obtain ⟨m, hm⟩ : ∃ m, i + (j) = m := ⟨_, rfl⟩
                  have hwr : IntKind.i64.wrap ((i : Int) + (j : Int)) = (m : Int) := by rw [IntWalk.i64_in _ (by omega)]; omega
                  have HMM := Lib.hid hm
                  clear hm
                  go_wp2_with fail
                  refine wp_region_sched [(0, true), (1, true), (2, true), (3, true), (4, true), (5, true), (6, true), (7, true), (8, true), (9, true), (10, true)] (by kernel_rfl) (by kernel_rfl) (fun _ _ d _ _ h => by cases d <;> exact h) ?_
                  refine swith (fun W hW => (cells4 (HL.out.next (hbw.drew.trans (hW.out.mono hbw.size))).box)) (fun q => ?_)
                  repeat (first | (refine sreadx rfl rfl ?_; apply Exists.intro; apply And.intro; (· (intro W hW; first | (go_simp; done) | (go_simp; with_reducible rfl) | (go_simp; rw [if_neg (by omega)]; done) | (go_simp; rw [if_neg (by omega)]; with_reducible rfl))); simp only [Act.put, List.setIfInBounds_toArray, List.set_cons_zero, List.set_cons_succ]) | (refine sskip rfl rfl ?_; simp only [Act.put, List.setIfInBounds_toArray, List.set_cons_zero, List.set_cons_succ]))
                  refine sdone ?_
                  clear q
                  go_wp2_with fail
                  (try simp only [Exit.inBlock, Exit.then]); refine bodyPost_ret (results_tmp4 rfl _ _ _) rfl ?_
                  refine ⟨?_, hbw.drew⟩
                  rw [hbad.out]
                  have := HMM.out
                  unfold RetQ
                  simp only [Array.getD, zeroV]
                  simp
                  omega
                · clear hwc
                  obtain ⟨m, hm⟩ : ∃ m, i + (j) = m := ⟨_, rfl⟩
                  have hwr : IntKind.i64.wrap ((i : Int) + (j : Int)) = (m : Int) := by rw [IntWalk.i64_in _ (by omega)]; omega
                  have HMM := Lib.hid hm
                  clear hm
                  go_wp2_with fail
                  refine wp_region_sched [(0, true), (1, true), (2, true), (3, true), (4, true), (5, true), (6, true), (7, true), (8, true), (9, true), (10, true)] (by kernel_rfl) (by kernel_rfl) (fun _ _ d _ _ h => by cases d <;> exact h) ?_
                  refine swith (fun W hW => (cells4 (HL.out.next (hbw.drew.trans (hW.out.mono hbw.size))).box)) (fun q => ?_)
                  repeat (first | (refine sreadx rfl rfl ?_; apply Exists.intro; apply And.intro; (· (intro W hW; first | (go_simp; done) | (go_simp; with_reducible rfl) | (go_simp; rw [if_neg (by omega)]; done) | (go_simp; rw [if_neg (by omega)]; with_reducible rfl))); simp only [Act.put, List.setIfInBounds_toArray, List.set_cons_zero, List.set_cons_succ]) | (refine sskip rfl rfl ?_; simp only [Act.put, List.setIfInBounds_toArray, List.set_cons_zero, List.set_cons_succ]))
                  refine sdone ?_
                  clear q
                  go_wp2_with fail
                  (try simp only [Exit.inBlock, Exit.then]); refine bodyPost_ret (results_tmp4 rfl _ _ _) rfl ?_
                  refine ⟨?_, hbw.drew⟩
                  rw [hbad.out]
                  have := HMM.out
                  unfold RetQ
                  simp only [Array.getD, zeroV]
                  simp
                  omega
          · obtain rfl : j = e := by omega
            have f1 : decide ((j : Int) < (j : Int)) = false := by simp
            have hQ2 := hJ.out
            rw [qs_quote hlt (HC.out.symm ▸ H34.out)] at hQ2
            injection hQ2 with hQ2
            have hok := quoL_ok HQ1.out (by rw [← hQ2])
            have hs : Q.s = b := by rw [← hQ2]
            have hnn : Q.n = j := HQn.out
            rw [hs, hnn] at hok
            have HOK := Lib.hid hok
            clear hok hs hnn hQ2
            go_wp2_with fail
            refine (blen_any hB).mono ?_; rintro e w3 ⟨rfl, rfl⟩
            by_cases hbig : b.length > 32
            · have g1 : decide ((b.length : Int) > 32) = true := by simp; omega
              have g1' : decide (32 < (b.length : Int)) = true := by simp; omega
              have HO := Lib.hid (HOK.out.trans (if_pos hbig))
              clear hbig
              go_wp2_with fail
              refine wp_region_sched [(0, true), (1, true), (2, true), (3, true), (4, true), (5, true), (6, true), (7, true), (8, true)] (by kernel_rfl) (by kernel_rfl) (fun _ _ d _ _ h => by cases d <;> exact h) ?_
              refine swith (fun W hW => (cells4 (HL.out.next (hbw.drew.trans (hW.out.mono hbw.size))).box)) (fun q => ?_)
              repeat (first | (refine sreadx rfl rfl ?_; apply Exists.intro; apply And.intro; (· (intro W hW; first | (go_simp; done) | (go_simp; with_reducible rfl) | (go_simp; rw [if_neg (by omega)]; done) | (go_simp; rw [if_neg (by omega)]; with_reducible rfl))); simp only [Act.put, List.setIfInBounds_toArray, List.set_cons_zero, List.set_cons_succ]) | (refine sskip rfl rfl ?_; simp only [Act.put, List.setIfInBounds_toArray, List.set_cons_zero, List.set_cons_succ]))
              refine sdone ?_
              clear q
              go_wp2_with fail
              (try simp only [Exit.inBlock, Exit.then]); refine bodyPost_ret (results_tmp4 rfl _ _ _) rfl ?_
              refine ⟨?_, hbw.drew⟩
              rw [HO.out]
              unfold RetQ
              simp only [Array.getD, zeroV]
              simp
            · have g1 : decide ((b.length : Int) > 32) = false := by simp; omega
              have g1' : decide (32 < (b.length : Int)) = false := by simp; omega
              have HO := Lib.hid (HOK.out.trans (if_neg hbig))
              clear hbig
              go_wp2_with fail
              refine (string_any hB).mono ?_; rintro e w3 ⟨rfl, b3⟩
              go_wp2_with fail
              (try simp only [Exit.inBlock, Exit.then]); refine bodyPost_ret (results_tmp4 rfl _ _ _) rfl ?_
              refine ⟨?_, Below.trans hbw b3⟩
              rw [HO.out]
              unfold RetQ
              simp only [Array.getD]
              simp
      · have e1 : ((c.toNat : Int) != 34) = true := by simp; omega
        have e1' : ((c.toNat : Int) == 34) = false := by simp; omega
        by_cases h92 : c.toNat = 92
        · have e2 : ((c.toNat : Int) == 92) = true := by simp; omega
          have hE2 : Hid ((quoS (t.drop (e + 2)) (e + 2) ⟨0, [], none⟩).map (·.n) = M) := Lib.hid (by
            rw [← hE.out]
            by_cases h1 : e + 1 < t.length
            · rw [qs_esc h1 (by rw [hc]; exact h92)]; exact qs_n _ _ (Nat.le_refl _) _ _ _
            · rw [qs_esc_end (t := t) (k := e) (by omega) (by rw [hc]; exact h92), qs_end (t := t) (k := e + 2) (by omega)])
          clear hc h34 h92
          go_wp2_with fail
          go_round
          case rel => exact ⟨e + 2, by omega, by omega, by go_num, hE2⟩
          case measure => simp [intOf]; omega
        · have e2 : ((c.toNat : Int) == 92) = false := by simp; omega
          have hE2 : Hid ((quoS (t.drop (e + 1)) (e + 1) ⟨0, [], none⟩).map (·.n) = M) := Lib.hid (by
            rw [← hE.out, qs_go hlt (by rw [hc]; exact h34) (by rw [hc]; exact h92)]; exact qs_n _ _ (Nat.le_refl _) _ _ _)
          clear hc h34 h92
          go_wp2_with fail
          go_round
          case rel => exact ⟨e + 1, by omega, by omega, by go_num, hE2⟩
          case measure => simp [intOf]; omega
    · have d1 : decide ((e : Int) < (t.length : Int)) = false := by simp; omega
      have d2 : decide ((e : Int) ≥ (t.length : Int)) = true := by simp; omega
      have d3 : decide ((t.length : Int) ≤ (e : Int)) = true := by simp; omega
      have HQ : Hid (quoL t = ⟨12, t.length, 3, 0, zeroV⟩) := Lib.hid (by
        have h1 := HM.out
        rw [← hE.out, qs_end (t := t) (k := e) (by omega)] at h1
        unfold quoL
        cases hh : quoS (t.drop 1) 1 ⟨0, [], none⟩ with
        | none => rfl
        | some Q => rw [hh] at h1; cases h1)
      go_wp2_with fail
      refine wp_region_sched [(0, true), (1, true), (2, true), (3, true), (4, true), (5, true), (6, true), (7, true), (8, true)] (by kernel_rfl) (by kernel_rfl) (fun _ _ d _ _ h => by cases d <;> exact h) ?_
      refine swith (fun W hW => (cells4 (HL.out.next ((Below.refl _ _).drew.drew.trans (hW.out.mono (Nat.le_refl _)))).box)) (fun q => ?_)
      repeat (first | (refine sreadx rfl rfl ?_; apply Exists.intro; apply And.intro; (· (intro W hW; first | (go_simp; done) | (go_simp; with_reducible rfl) | (go_simp; rw [if_neg (by omega)]; done) | (go_simp; rw [if_neg (by omega)]; with_reducible rfl))); simp only [Act.put, List.setIfInBounds_toArray, List.set_cons_zero, List.set_cons_succ]) | (refine sskip rfl rfl ?_; simp only [Act.put, List.setIfInBounds_toArray, List.set_cons_zero, List.set_cons_succ]))
      refine sdone ?_
      clear q
      go_wp2_with fail
      (try simp only [Exit.inBlock, Exit.then]); refine bodyPost_ret (results_tmp4 rfl _ _ _) rfl ?_
      refine ⟨?_, (Below.refl _ _).drew.drew⟩
      rw [HQ.out]
      have := HTL.out
      unfold RetQ
      simp only [Array.getD, zeroV]
      simp
      omega
end Go.Proofs.Ytpodniljpinigaa.X
