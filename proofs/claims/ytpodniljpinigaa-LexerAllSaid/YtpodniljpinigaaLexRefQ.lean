/- The contract of the reference's quoted (layer 8). -/
import Derived.Test.YtpodniljpinigaaLexRefS
import Derived.RegionTactic
import Derived.Test.YtpodniljpinigaaValRParse
import Derived.ChangeAlike
namespace Go.Proofs.Ytpodniljpinigaa.X
open Go.RowKit O V S

def tk0 (k : Int) (x : List UInt8) (v : Val) : List Value := [.int .i64 k, .string ⟨x.toArray⟩, .int .i64 v.k, .int .i64 v.n, .string ⟨v.s.toArray⟩, .int .i64 0, .int .i64 0, .int .i64 0]
/-- What the reference's one and quoted hand back. -/
def RetO (R : TokR) (t : List UInt8) (i : Nat) (e : Ending) : Prop := ∃ k x v, e = .returned (.tuple #[.agg (tk0 k x v).toArray, .int .i64 R.e, .int .i64 (if R.e = 0 then 0 else ((i + R.off : Nat) : Int))]) ∧ (R.e = 0 → k = R.k ∧ x = t.take R.n ∧ v = R.v)
section
variable {s : List UInt8} {k : Nat}
theorem qr_end (h : s.length ≤ k) (m : Nat) (q : Quo) : quoS (s.drop k) m q = none := by rw [List.drop_of_length_le h, quoS_nil]
theorem qr_quote (h : k < s.length) {c : UInt8} (he : s[k] = c) (hc : c.toNat = 34) (m : Nat) (q : Quo) : quoS (s.drop k) m q = some ⟨m, q.s, q.bad⟩ := by
  rw [List.drop_eq_getElem_cons h, quoS_cons, if_pos (by rw [he]; exact hc)]
theorem qr_esc (h : k + 1 < s.length) {c d : UInt8} (he : s[k] = c) (hd : s[k + 1] = d) (hc : c.toNat = 92) (m : Nat) (q : Quo) : quoS (s.drop k) m q = quoS (s.drop (k + 2)) (m + 2) ⟨0, q.s ++ [d], orE q.bad (if (!escC d || wrongC d) = true then some (m + 1) else none)⟩ := by
  rw [List.drop_eq_getElem_cons (by omega : k < s.length), quoS_cons, if_neg (by rw [he]; omega), if_pos (by rw [he]; exact hc), List.drop_eq_getElem_cons h, hd]
theorem qr_esc_end (h : k + 1 = s.length) {c : UInt8} (he : s[k]'(by omega) = c) (hc : c.toNat = 92) (m : Nat) (q : Quo) : quoS (s.drop k) m q = none := by
  rw [List.drop_eq_getElem_cons (by omega : k < s.length), quoS_cons, if_neg (by rw [he]; omega), if_pos (by rw [he]; exact hc), List.drop_of_length_le (by omega)]
theorem qr_go (h : k < s.length) {c : UInt8} (he : s[k] = c) (h1 : c.toNat ≠ 34) (h2 : c.toNat ≠ 92) (m : Nat) (q : Quo) : quoS (s.drop k) m q = quoS (s.drop (k + 1)) (m + 1) ⟨0, q.s ++ [c], orE q.bad (if wrongC c = true then some m else none)⟩ := by
  rw [List.drop_eq_getElem_cons h, quoS_cons, if_neg (by rw [he]; exact h1), if_neg (by rw [he]; exact h2), he]
end
def badI (i : Nat) : Option Nat → Int
  | none => -1
  | some q => ((i + q : Nat) : Int)
/-- The two boxes of the reference's quoted. -/
structure QB (w : World) (b : List UInt8) (W : World) : Prop where
  z : W.heap[w.heap.size]? = some (.cells #[.int .i64 0, .string ⟨#[]⟩, .int .i64 0, .int .i64 0, .string ⟨#[]⟩, .int .i64 0, .int .i64 0, .int .i64 0] 45 (0, 0))
  t : W.heap[w.heap.size + 1]? = some (.cells #[.int .i64 3, .string ⟨#[]⟩, .int .i64 3, .int .i64 0, .string ⟨b.toArray⟩, .int .i64 0, .int .i64 0, .int .i64 0] 45 (0, 0))
  b : Below w.heap.size w W
theorem QB.start (w : World) : QB w [] ((w.alloc (.cells #[.int .i64 0, .string ⟨#[]⟩, .int .i64 0, .int .i64 0, .string ⟨#[]⟩, .int .i64 0, .int .i64 0, .int .i64 0] 45)).alloc (.cells #[.int .i64 3, .string ⟨#[]⟩, .int .i64 3, .int .i64 0, .string ⟨#[]⟩, .int .i64 0, .int .i64 0, .int .i64 0] 45)) :=
  ⟨alloc_old' (alloc_at rfl), alloc_at (by simp), by repeat (first | exact Below.refl _ _ | refine Below.alloc ?_ (by simp <;> omega) _)⟩
theorem QB.drew {w W : World} {b : List UInt8} (h : QB w b W) : QB w b W.drew := ⟨h.z, h.t, h.b.drew⟩
theorem QB.set {w W : World} {b b' : List UInt8} (h : QB w b W) : QB w b' (W.setCell ⟨w.heap.size + 1, 4, none⟩ (.string ⟨b'.toArray⟩)) :=
  ⟨(Below.heap_setCell _ _ _ _ (show w.heap.size ≠ w.heap.size + 1 by omega)).trans h.z, by have := heap_set (i := 4) h.t (.string ⟨b'.toArray⟩); simpa using this, h.b.setCell (by simp) _⟩
theorem orE_none (b : Option Nat) : orE b none = b := by cases b <;> rfl
theorem quoL_none {t : List UInt8} (h : quoS (t.drop 1) 1 ⟨0, [], none⟩ = none) : quoL t = ⟨12, t.length, 3, 0, zeroV⟩ := by unfold quoL; rw [h]
set_option maxHeartbeats 4000000 in
set_option maxRecDepth 100000 in
theorem rquoted_any (s : List UInt8) (i : Nat) (w : World) (hs : s.length ≤ 20000) (hin : i < s.length) : Calls Try.prog 65 #[.string ⟨s.toArray⟩, .int .i64 (i : Int)] w fun e w' => RetO (quoL (s.drop i)) (s.drop i) i e ∧ Below w.heap.size w w' := by
  have hsz : (ByteArray.mk s.toArray).size = s.length := by simp [ByteArray.size]
  go_enter Try.func65, Try.ntmps65
  go_wp2_with fail
  have H0 := Lib.hid (QB.start w)
  go_loopw [8, 9] (fun u v wr => ∃ (m : Nat) (b : List UInt8) (bd : Option Nat), 1 ≤ m ∧ i + m ≤ s.length ∧ u = .int .i64 (badI i bd) ∧ v = .int .i64 ((i + m : Nat) : Int) ∧ QB w b wr ∧ b.length ≤ m ∧ Hid (quoS (s.drop (i + m)) m ⟨0, b, bd⟩ = quoS (s.drop (i + 1)) 1 ⟨0, [], none⟩) ∧ Hid (∀ q, bd = some q → q ≤ s.length)) (fun _ v _ => s.length - (intOf v).toNat)
  case atStart => exact ⟨1, [], none, by omega, by omega, rfl, by go_num, H0.out, by simp, Lib.hid rfl, Lib.hid (fun q h => by cases h)⟩
  case round =>
    obtain ⟨m, b, bd, hm1, hml, rfl, rfl, hR, hbl, H, hbq⟩ := hrel
    obtain ⟨k, hk⟩ : ∃ k, i + m = k := ⟨_, rfl⟩
    rw [hk] at hml H
    rw [hk]
    have HR := Lib.hid hR; clear hR H0
    have hbz : (ByteArray.mk b.toArray).size = b.length := by simp [ByteArray.size]
    obtain ⟨x0, x1, x2, x3, x4, x5, x6, x7⟩ := cells8 HR.out.t
    obtain ⟨_, f1, _, _, f4, _, _, _⟩ := frozen8 HR.out.t
    obtain ⟨z0, z1, z2, z3, z4, z5, z6, z7⟩ := cells8 HR.out.z
    obtain ⟨y0, y1, y2, y3, y4, y5, y6, y7⟩ := frozen8 HR.out.z
    have HK := Lib.hid hk
    have hlm : b.length + 1 ≤ 9223372036854775807 := by omega
    by_cases hlt : k < s.length
    · obtain ⟨c, hc⟩ : ∃ c, s[k] = c := ⟨_, rfl⟩
      have hx := ba_at s k hlt hc
      have hki : (k : Int) < (s.length : Int) := by omega
      by_cases h34 : c.toNat = 34
      · have g34 : ((c.toNat : Int) != 34) = false := by simp; omega
        have g34' : ((c.toNat : Int) == 34) = true := by simp; omega
        have hq := Lib.hid (H.out.symm.trans (qr_quote hlt hc h34 _ _))
        have hq' : quoS ((s.drop i).drop 1) 1 ⟨0, [], none⟩ = some ⟨m, b, bd⟩ := by rw [List.drop_drop]; exact hq.out
        have HQ := Lib.hid hq'
        have hcut := cut_at s i (m + 1) (k + 1) (by omega)
        have i1 : (k : Int) + 1 ≤ (s.length : Int) := by omega
        have i2 : (i : Int) ≤ (k : Int) + 1 := by omega
        have hn3 : ((k : Int) + 1).toNat = k + 1 := by omega
        have hle : decide ((k : Int) ≥ (s.length : Int)) = false := by simp; omega
        clear hk hc h34 H hq'
        cases bd with
        | none =>
          have hb' : badI i none = -1 := rfl
          rw [hb']
          clear hb'
          by_cases hbig : b.length > 32
          · have g1 : decide ((b.length : Int) > 32) = true := by simp; omega
            have HBG := Lib.hid hbig
            clear hbig
            go_wp2_with fail
            refine bodyPost_ret (v := .tuple #[.agg (tk0 3 [] ⟨3, 0, b⟩).toArray, .int .i64 2, .int .i64 (i : Int)]) (by simp [results, Try.results65, go_sem, tk0, z0, z1, z2, z3, z4, z5, z6, z7]) rfl ?_
            refine ⟨⟨3, [], ⟨3, 0, b⟩, ?_, fun h => ?_⟩, ?_⟩
            · rw [quoL_ok HQ.out rfl, if_pos HBG.out]; rfl
            · rw [quoL_ok HQ.out rfl, if_pos HBG.out] at h; exact absurd h (by decide)
            · have := HR.out.b
              repeat (first | (with_reducible exact Below.refl _ _) | (with_reducible assumption) | refine Below.setCell ?_ (by simp <;> omega) _ | refine Below.alloc ?_ (by simp <;> omega) _ | refine Below.drew ?_)
          · have g1 : decide ((b.length : Int) > 32) = false := by simp; omega
            have HBG := Lib.hid hbig
            clear hbig
            go_wp2_with fail
            refine bodyPost_ret (v := .tuple #[.agg (tk0 3 ((s.drop i).take (m + 1)) ⟨3, 0, b⟩).toArray, .int .i64 0, .int .i64 0]) (by simp [results, Try.results65, go_sem, tk0, z0, z1, z2, z3, z4, z5, z6, z7]) rfl ?_
            refine ⟨⟨3, (s.drop i).take (m + 1), ⟨3, 0, b⟩, ?_, fun h => ?_⟩, ?_⟩
            · rw [quoL_ok HQ.out rfl, if_neg HBG.out]; rfl
            · rw [quoL_ok HQ.out rfl, if_neg HBG.out]; exact ⟨rfl, rfl, rfl⟩
            · have := HR.out.b
              repeat (first | (with_reducible exact Below.refl _ _) | (with_reducible assumption) | refine Below.setCell ?_ (by simp <;> omega) _ | refine Below.alloc ?_ (by simp <;> omega) _ | refine Below.drew ?_)
        | some q =>
          have hb' : badI i (some q) = ((i + q : Nat) : Int) := rfl
          rw [hb']
          obtain ⟨B, hB⟩ : ∃ B : Nat, i + q = B := ⟨_, rfl⟩
          rw [hB]
          have HB := Lib.hid hB
          have hB0 : decide ((B : Int) ≥ 0) = true := by simp
          clear hb' hB
          go_wp2_with fail
          refine bodyPost_ret (v := .tuple #[.agg (tk0 3 [] ⟨3, 0, b⟩).toArray, .int .i64 10, .int .i64 (B : Int)]) (by simp [results, Try.results65, go_sem, tk0, z0, z1, z2, z3, z4, z5, z6, z7]) rfl ?_
          refine ⟨⟨3, [], ⟨3, 0, b⟩, ?_, fun h => ?_⟩, ?_⟩
          · rw [quoL_bad HQ.out rfl, if_neg (by show ¬ (10 : Int) = 0; decide), HB.out]
          · rw [quoL_bad HQ.out rfl] at h; exact absurd (show (10 : Int) = 0 from h) (by decide)
          · have := HR.out.b
            repeat (first | (with_reducible exact Below.refl _ _) | (with_reducible assumption) | refine Below.setCell ?_ (by simp <;> omega) _ | refine Below.alloc ?_ (by simp <;> omega) _ | refine Below.drew ?_)
      · have g34 : ((c.toNat : Int) != 34) = true := by simp; omega
        have g34' : ((c.toNat : Int) == 34) = false := by simp; omega
        by_cases h92 : c.toNat = 92
        · have g92 : ((c.toNat : Int) == 92) = true := by simp; omega
          by_cases hlt2 : k + 1 < s.length
          · obtain ⟨d, hd⟩ : ∃ c, s[k + 1] = c := ⟨_, rfl⟩
            have hx2 := ba_at s (k + 1) hlt2 hd
            have hki2 : (k : Int) + 1 < (s.length : Int) := by omega
            have hq := Lib.hid (H.out.symm.trans (qr_esc hlt2 hc hd h92 _ _))
            have hex := esc_ba hlt2 hd
            have hn3 : ((k : Int) + 1 + 1).toNat = k + 1 + 1 := by omega
            have i1 : (k : Int) + 1 + 1 ≤ (s.length : Int) := by omega
            clear hk hc hd h34 h92 H
            by_cases d34 : d.toNat = 34
            · have hif : (if (!escC d || wrongC d) = true then some (m + 1) else none) = none := if_neg (by simp [escC, wrongC, d34])
              have e1 : ((d.toNat : Int) != 34) = false := by simp; omega
              have e2 : decide ((d.toNat : Int) < 32) = false := by simp; omega
              have e3 : decide ((d.toNat : Int) > 126) = false := by simp; omega
              have hst := Lib.hid (show quoS (s.drop (i + (m + 2))) (m + 2) ⟨0, b ++ [d], bd⟩ = quoS (s.drop (i + 1)) 1 ⟨0, [], none⟩ from by have := hq.out; rw [hif, orE_none] at this; rw [show i + (m + 2) = k + 2 by have := HK.out; omega]; exact this.symm)
              clear d34 hif
              go_wp2_with fail
              go_region
              go_wp2_with fail
              go_roundw
              case rel => exact ⟨m + 2, b ++ [d], bd, by omega, by have := HK.out; omega, rfl, congrArg (Value.int .i64) (by have := HK.out; omega), by rw [ba_append]; first | exact HR.out.drew.set | exact HR.out.set.drew, by simp; omega, hst, hbq⟩
              case measure => simp [intOf]; omega
            · by_cases d92 : d.toNat = 92
              · have hif : (if (!escC d || wrongC d) = true then some (m + 1) else none) = none := if_neg (by simp [escC, wrongC, d92])
                have e0 : ((d.toNat : Int) != 34) = true := by simp; omega
                have e1 : ((d.toNat : Int) != 92) = false := by simp; omega
                have e2 : decide ((d.toNat : Int) < 32) = false := by simp; omega
                have e3 : decide ((d.toNat : Int) > 126) = false := by simp; omega
                have hst := Lib.hid (show quoS (s.drop (i + (m + 2))) (m + 2) ⟨0, b ++ [d], bd⟩ = quoS (s.drop (i + 1)) 1 ⟨0, [], none⟩ from by have := hq.out; rw [hif, orE_none] at this; rw [show i + (m + 2) = k + 2 by have := HK.out; omega]; exact this.symm)
                clear d34 d92 hif
                go_wp2_with fail
                go_region
                go_wp2_with fail
                go_roundw
                case rel => exact ⟨m + 2, b ++ [d], bd, by omega, by have := HK.out; omega, rfl, congrArg (Value.int .i64) (by have := HK.out; omega), by rw [ba_append]; first | exact HR.out.drew.set | exact HR.out.set.drew, by simp; omega, hst, hbq⟩
                case measure => simp [intOf]; omega
              · have hif : (if (!escC d || wrongC d) = true then some (m + 1) else none) = some (m + 1) := if_pos (by simp [escC, d34, d92])
                have e0 : ((d.toNat : Int) != 34) = true := by simp; omega
                have e1 : ((d.toNat : Int) != 92) = true := by simp; omega
                clear d34 d92
                cases bd with
                | none =>
                  have hst := Lib.hid (show quoS (s.drop (i + (m + 2))) (m + 2) ⟨0, b ++ [d], some (m + 1)⟩ = quoS (s.drop (i + 1)) 1 ⟨0, [], none⟩ from by have := hq.out; rw [hif] at this; rw [show i + (m + 2) = k + 2 by have := HK.out; omega]; exact this.symm)
                  have hb' : badI i none = -1 := rfl
                  rw [hb']
                  clear hb'
                  go_wp2_with fail
                  go_region
                  go_wp2_with fail
                  go_roundw
                  case rel => exact ⟨m + 2, b ++ [d], some (m + 1), by omega, by have := HK.out; omega, congrArg (Value.int .i64) (by have := HK.out; simp only [badI]; omega), congrArg (Value.int .i64) (by have := HK.out; omega), by rw [ba_append]; first | exact HR.out.drew.set | exact HR.out.set.drew, by simp; omega, hst, Lib.hid (fun q h => by have := HK.out; injection h with h; omega)⟩
                  case measure => simp [intOf]; omega
                | some q =>
                  have hst := Lib.hid (show quoS (s.drop (i + (m + 2))) (m + 2) ⟨0, b ++ [d], some q⟩ = quoS (s.drop (i + 1)) 1 ⟨0, [], none⟩ from by have := hq.out; rw [hif] at this; rw [show i + (m + 2) = k + 2 by have := HK.out; omega]; exact this.symm)
                  have hb' : badI i (some q) = ((i + q : Nat) : Int) := rfl
                  obtain ⟨B, hB⟩ : ∃ B : Nat, i + q = B := ⟨_, rfl⟩
                  rw [hb', hB]
                  have HB := Lib.hid (show badI i (some q) = (B : Int) by rw [← hB]; rfl)
                  have hB0 : decide ((B : Int) < 0) = false := by simp
                  clear hb' hB
                  go_wp2_with fail
                  go_region
                  go_wp2_with fail
                  go_roundw
                  case rel => exact ⟨m + 2, b ++ [d], some q, by omega, by have := HK.out; omega, congrArg (Value.int .i64) HB.out.symm, congrArg (Value.int .i64) (by have := HK.out; omega), by rw [ba_append]; first | exact HR.out.drew.set | exact HR.out.set.drew, by simp; omega, hst, hbq⟩
                  case measure => simp [intOf]; omega
          · have hq := Lib.hid (H.out.symm.trans (qr_esc_end (by omega) hc h92 _ _))
            have hki2 : ¬ (k : Int) + 1 < (s.length : Int) := by omega
            clear hk hc h34 h92 H
            go_wp2_with fail
            refine bodyPost_ret (v := .tuple #[.agg (tk0 3 [] ⟨3, 0, b⟩).toArray, .int .i64 12, .int .i64 (s.length : Int)]) (by simp [results, Try.results65, go_sem, tk0, z0, z1, z2, z3, z4, z5, z6, z7]) rfl ?_
            refine ⟨⟨3, [], ⟨3, 0, b⟩, ?_, fun h => ?_⟩, ?_⟩
            · rw [quoL_none (by rw [List.drop_drop]; exact hq.out)]
              rw [if_neg (by show ¬ (12 : Int) = 0; decide), show i + (s.drop i).length = s.length by rw [List.length_drop]; omega]
            · rw [quoL_none (by rw [List.drop_drop]; exact hq.out)] at h; exact absurd (show (12 : Int) = 0 from h) (by decide)
            · have := HR.out.b
              repeat (first | (with_reducible exact Below.refl _ _) | (with_reducible assumption) | refine Below.setCell ?_ (by simp <;> omega) _ | refine Below.alloc ?_ (by simp <;> omega) _ | refine Below.drew ?_)
        · have g92 : ((c.toNat : Int) == 92) = false := by simp; omega
          have hq := Lib.hid (H.out.symm.trans (qr_go hlt hc h34 h92 _ _))
          have hex := esc_ba hlt hc
          have hn3 : ((k : Int) + 1).toNat = k + 1 := by omega
          have i1 : (k : Int) + 1 ≤ (s.length : Int) := by omega
          clear hk hc h34 h92 H
          by_cases c1 : c.toNat < 32
          · have hif : (if wrongC c = true then some m else none) = some m := if_pos (by simp [wrongC, c1])
            have e2 : decide ((c.toNat : Int) < 32) = true := by simp; omega
            clear c1
            cases bd with
            | none =>
              have hst := Lib.hid (show quoS (s.drop (i + (m + 1))) (m + 1) ⟨0, b ++ [c], some (m)⟩ = quoS (s.drop (i + 1)) 1 ⟨0, [], none⟩ from by have := hq.out; rw [hif] at this; rw [show i + (m + 1) = k + 1 by have := HK.out; omega]; exact this.symm)
              have hb' : badI i none = -1 := rfl
              rw [hb']
              clear hb'
              go_wp2_with fail
              go_region
              go_wp2_with fail
              go_roundw
              case rel => exact ⟨m + 1, b ++ [c], some (m), by omega, by have := HK.out; omega, congrArg (Value.int .i64) (by have := HK.out; simp only [badI]; omega), congrArg (Value.int .i64) (by have := HK.out; omega), by rw [ba_append]; first | exact HR.out.drew.set | exact HR.out.set.drew, by simp; omega, hst, Lib.hid (fun q h => by have := HK.out; injection h with h; omega)⟩
              case measure => simp [intOf]; omega
            | some q =>
              have hst := Lib.hid (show quoS (s.drop (i + (m + 1))) (m + 1) ⟨0, b ++ [c], some q⟩ = quoS (s.drop (i + 1)) 1 ⟨0, [], none⟩ from by have := hq.out; rw [hif] at this; rw [show i + (m + 1) = k + 1 by have := HK.out; omega]; exact this.symm)
              have hb' : badI i (some q) = ((i + q : Nat) : Int) := rfl
              obtain ⟨B, hB⟩ : ∃ B : Nat, i + q = B := ⟨_, rfl⟩
              rw [hb', hB]
              have HB := Lib.hid (show badI i (some q) = (B : Int) by rw [← hB]; rfl)
              have hB0 : decide ((B : Int) < 0) = false := by simp
              clear hb' hB
              go_wp2_with fail
              go_region
              go_wp2_with fail
              go_roundw
              case rel => exact ⟨m + 1, b ++ [c], some q, by omega, by have := HK.out; omega, congrArg (Value.int .i64) HB.out.symm, congrArg (Value.int .i64) (by have := HK.out; omega), by rw [ba_append]; first | exact HR.out.drew.set | exact HR.out.set.drew, by simp; omega, hst, hbq⟩
              case measure => simp [intOf]; omega
          · by_cases c2 : c.toNat > 126
            · have hif : (if wrongC c = true then some m else none) = some m := if_pos (by simp [wrongC]; omega)
              have e2 : decide ((c.toNat : Int) < 32) = false := by simp; omega
              have e3 : decide ((c.toNat : Int) > 126) = true := by simp; omega
              clear c1 c2
              cases bd with
              | none =>
                have hst := Lib.hid (show quoS (s.drop (i + (m + 1))) (m + 1) ⟨0, b ++ [c], some (m)⟩ = quoS (s.drop (i + 1)) 1 ⟨0, [], none⟩ from by have := hq.out; rw [hif] at this; rw [show i + (m + 1) = k + 1 by have := HK.out; omega]; exact this.symm)
                have hb' : badI i none = -1 := rfl
                rw [hb']
                clear hb'
                go_wp2_with fail
                go_region
                go_wp2_with fail
                go_roundw
                case rel => exact ⟨m + 1, b ++ [c], some (m), by omega, by have := HK.out; omega, congrArg (Value.int .i64) (by have := HK.out; simp only [badI]; omega), congrArg (Value.int .i64) (by have := HK.out; omega), by rw [ba_append]; first | exact HR.out.drew.set | exact HR.out.set.drew, by simp; omega, hst, Lib.hid (fun q h => by have := HK.out; injection h with h; omega)⟩
                case measure => simp [intOf]; omega
              | some q =>
                have hst := Lib.hid (show quoS (s.drop (i + (m + 1))) (m + 1) ⟨0, b ++ [c], some q⟩ = quoS (s.drop (i + 1)) 1 ⟨0, [], none⟩ from by have := hq.out; rw [hif] at this; rw [show i + (m + 1) = k + 1 by have := HK.out; omega]; exact this.symm)
                have hb' : badI i (some q) = ((i + q : Nat) : Int) := rfl
                obtain ⟨B, hB⟩ : ∃ B : Nat, i + q = B := ⟨_, rfl⟩
                rw [hb', hB]
                have HB := Lib.hid (show badI i (some q) = (B : Int) by rw [← hB]; rfl)
                have hB0 : decide ((B : Int) < 0) = false := by simp
                clear hb' hB
                go_wp2_with fail
                go_region
                go_wp2_with fail
                go_roundw
                case rel => exact ⟨m + 1, b ++ [c], some q, by omega, by have := HK.out; omega, congrArg (Value.int .i64) HB.out.symm, congrArg (Value.int .i64) (by have := HK.out; omega), by rw [ba_append]; first | exact HR.out.drew.set | exact HR.out.set.drew, by simp; omega, hst, hbq⟩
                case measure => simp [intOf]; omega
            · have hif : (if wrongC c = true then some m else none) = none := if_neg (by simp [wrongC]; omega)
              have e2 : decide ((c.toNat : Int) < 32) = false := by simp; omega
              have e3 : decide ((c.toNat : Int) > 126) = false := by simp; omega
              have hst := Lib.hid (show quoS (s.drop (i + (m + 1))) (m + 1) ⟨0, b ++ [c], bd⟩ = quoS (s.drop (i + 1)) 1 ⟨0, [], none⟩ from by have := hq.out; rw [hif, orE_none] at this; rw [show i + (m + 1) = k + 1 by have := HK.out; omega]; exact this.symm)
              clear c1 c2 hif
              go_wp2_with fail
              go_region
              go_wp2_with fail
              go_roundw
              case rel => exact ⟨m + 1, b ++ [c], bd, by omega, by have := HK.out; omega, rfl, congrArg (Value.int .i64) (by have := HK.out; omega), by rw [ba_append]; first | exact HR.out.drew.set | exact HR.out.set.drew, by simp; omega, hst, hbq⟩
              case measure => simp [intOf]; omega
    · have hq := Lib.hid (H.out.symm.trans (qr_end (by omega) _ _))
      have hki : ¬ (k : Int) < (s.length : Int) := by omega
      clear hk H
      go_wp2_with fail
      refine bodyPost_ret (v := .tuple #[.agg (tk0 3 [] ⟨3, 0, b⟩).toArray, .int .i64 12, .int .i64 (s.length : Int)]) (by simp [results, Try.results65, go_sem, tk0, z0, z1, z2, z3, z4, z5, z6, z7]) rfl ?_
      refine ⟨⟨3, [], ⟨3, 0, b⟩, ?_, fun h => ?_⟩, ?_⟩
      · rw [quoL_none (by rw [List.drop_drop]; exact hq.out)]
        rw [if_neg (by show ¬ (12 : Int) = 0; decide), show i + (s.drop i).length = s.length by rw [List.length_drop]; omega]
      · rw [quoL_none (by rw [List.drop_drop]; exact hq.out)] at h; exact absurd (show (12 : Int) = 0 from h) (by decide)
      · have := HR.out.b
        repeat (first | (with_reducible exact Below.refl _ _) | (with_reducible assumption) | refine Below.setCell ?_ (by simp <;> omega) _ | refine Below.alloc ?_ (by simp <;> omega) _ | refine Below.drew ?_)
end Go.Proofs.Ytpodniljpinigaa.X
