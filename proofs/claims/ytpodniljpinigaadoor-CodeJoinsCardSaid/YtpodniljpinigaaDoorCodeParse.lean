/- The contract of code.Parse (layer 15). -/
import Derived.Test.YtpodniljpinigaaDoorCodeCut
import Derived.RegionTactic
import Derived.ChangeAlike
namespace Go.Proofs.YtpodniljpinigaaDoor.C
open Go.RowKit O V

theorem words_snoc : ∀ (j : Nat) (r : List UInt8), words (j + 1) r = ((words j r).1 ++ [cutW (words j r).2], cutR (words j r).2)
  | 0, _ => rfl
  | j + 1, r => by
    have ih := words_snoc j (cutR r)
    show (cutW r :: (words (j + 1) (cutR r)).1, (words (j + 1) (cutR r)).2) = _
    rw [ih]
    rfl
theorem cutR_len (s : List UInt8) : (cutR s).length ≤ s.length := by
  have : (s.dropWhile nb).length ≤ s.length := by
    induction s with
    | nil => simp
    | cons c s ih => rw [List.dropWhile_cons]; split <;> simp <;> omega
  unfold cutR; simp; omega
theorem cutW_len (s : List UInt8) : (cutW s).length ≤ s.length := by
  unfold cutW; exact (List.takeWhile_prefix nb).length_le
theorem words_rest : ∀ (j : Nat) (r : List UInt8), (words j r).2.length ≤ r.length
  | 0, r => Nat.le_refl _
  | j + 1, r => by have := words_rest j (cutR r); have := cutR_len r; show (words j (cutR r)).2.length ≤ _; omega
theorem name_op {n : List UInt8} {j : Nat} (h1 : 1 ≤ j) (h2 : j ≤ 17) : (nameI (j : Int) == n) = decide (opOf n = (j : Int)) := by
  rw [Bool.eq_iff_iff, beq_iff_eq, decide_eq_true_eq]
  constructor
  · intro h; rw [← h]; exact (op_name j h1 h2).1
  · intro h; rw [← h]; exact (op_facts rfl (by rw [h]; omega)).2.2
theorem op_bounds (n : List UInt8) : 0 ≤ opOf n ∧ opOf n ≤ 17 := by
  by_cases h : opOf n = 0
  · omega
  · have := op_facts rfl h; omega
def RetI (o : Option Ins) : Ending := match o with
  | some x => .returned (.tuple #[insV x, .bool true])
  | none => .returned (.tuple #[insV zI, .bool false])
/-- The two boxes of code.Parse. -/
structure IB (w : World) (g : Nat) (x : Ins) (W : World) : Prop where
  z : W.heap[w.heap.size]? = some (.cells #[.int .i64 0, .int .i64 0, .int .i64 0, .int .i64 0, .int .i64 0, .int .i64 0, .int .i64 0, .string ⟨#[]⟩] 29 (0, 0))
  t : W.heap[g]? = some (.cells #[.int .i64 x.op, .int .i64 x.a, .int .i64 x.b, .int .i64 x.c, .int .i64 x.d, .int .i64 x.v.k, .int .i64 x.v.n, .string ⟨x.v.s.toArray⟩] 29 (0, 0))
  b : Below w.heap.size w W
  g : w.heap.size < g
theorem IB.next {w W W' : World} {g : Nat} {x : Ins} (h : IB w g x W) (b : Below W.heap.size W W') : IB w g x W' := ⟨box_next h.z b, box_next h.t b, bthen h.b b, h.g⟩
theorem heap_setC {w : World} {b i : Nat} {cs : Array Value} {T : TypeId} (hb : w.heap[b]? = some (.cells cs T (0, 0))) (v : Value) : (w.setCell ⟨b, i, none⟩ v).heap[b]? = some (.cells (cs.setIfInBounds i v) T (0, 0)) := by
  simp [World.setCell, Array.getElem?_modify, hb]
theorem IB.set0 {w W : World} {g : Nat} {x : Ins} (h : IB w g x W) (o : Int) : IB w g ⟨o, x.a, x.b, x.c, x.d, x.v⟩ (W.setCell ⟨g, 0, none⟩ (.int .i64 o)) :=
  ⟨(Below.heap_setCell _ _ _ _ (show w.heap.size ≠ g by have := h.g; omega)).trans h.z, by have := heap_setC (i := 0) h.t (.int .i64 o); simpa using this, h.b.setCell (show w.heap.size ≤ g by have := h.g; omega) _, h.g⟩
theorem frozen8c {W : World} {b : Nat} {cs : Array Value} {T : TypeId} (h : W.heap[b]? = some (.cells cs T (0, 0))) : W.frozen? ⟨b, 0, none⟩ = false ∧ W.frozen? ⟨b, 1, none⟩ = false ∧ W.frozen? ⟨b, 2, none⟩ = false ∧ W.frozen? ⟨b, 3, none⟩ = false ∧ W.frozen? ⟨b, 4, none⟩ = false ∧ W.frozen? ⟨b, 5, none⟩ = false ∧ W.frozen? ⟨b, 6, none⟩ = false ∧ W.frozen? ⟨b, 7, none⟩ = false :=
  ⟨Lib.frozen_of_heap h 0, Lib.frozen_of_heap h 1, Lib.frozen_of_heap h 2, Lib.frozen_of_heap h 3, Lib.frozen_of_heap h 4, Lib.frozen_of_heap h 5, Lib.frozen_of_heap h 6, Lib.frozen_of_heap h 7⟩
theorem IB.set4 {w W : World} {g : Nat} {x : Ins} (h : IB w g x W) (a b c d : Int) : IB w g ⟨x.op, a, b, c, d, x.v⟩ ((((W.setCell ⟨g, 1, none⟩ (.int .i64 a)).setCell ⟨g, 2, none⟩ (.int .i64 b)).setCell ⟨g, 3, none⟩ (.int .i64 c)).setCell ⟨g, 4, none⟩ (.int .i64 d)).drew := by
  have hne : w.heap.size ≠ g := by have := h.g; omega
  have hle : w.heap.size ≤ g := by have := h.g; omega
  refine ⟨(Below.heap_setCell _ _ _ _ hne).trans ((Below.heap_setCell _ _ _ _ hne).trans ((Below.heap_setCell _ _ _ _ hne).trans ((Below.heap_setCell _ _ _ _ hne).trans h.z))), ?_, ((((h.b.setCell (p := ⟨g, 1, none⟩) hle _).setCell (p := ⟨g, 2, none⟩) hle _).setCell (p := ⟨g, 3, none⟩) hle _).setCell (p := ⟨g, 4, none⟩) hle _).drew, h.g⟩
  exact heap_setC (i := 4) (heap_setC (i := 3) (heap_setC (i := 2) (heap_setC (i := 1) h.t (.int .i64 a)) (.int .i64 b)) (.int .i64 c)) (.int .i64 d)
theorem IB.setV {w W : World} {g : Nat} {x : Ins} (h : IB w g x W) (v : Val) : IB w g ⟨x.op, x.a, x.b, x.c, x.d, v⟩ (((W.setCell ⟨g, 5, none⟩ (.int .i64 v.k)).setCell ⟨g, 6, none⟩ (.int .i64 v.n)).setCell ⟨g, 7, none⟩ (.string ⟨v.s.toArray⟩)) := by
  have hne : w.heap.size ≠ g := by have := h.g; omega
  have hle : w.heap.size ≤ g := by have := h.g; omega
  refine ⟨(Below.heap_setCell _ _ _ _ hne).trans ((Below.heap_setCell _ _ _ _ hne).trans ((Below.heap_setCell _ _ _ _ hne).trans h.z)), ?_, ((h.b.setCell (p := ⟨g, 5, none⟩) hle _).setCell (p := ⟨g, 6, none⟩) hle _).setCell (p := ⟨g, 7, none⟩) hle _, h.g⟩
  have := heap_setC (i := 7) (heap_setC (i := 6) (heap_setC (i := 5) h.t (.int .i64 v.k)) (.int .i64 v.n)) (.string ⟨v.s.toArray⟩)
  simpa using this
theorem good_len {v : Val} (h : goodV v) : v.s.length ≤ 1000 := by
  rcases right_cases h.1 with ⟨_, e⟩ | ⟨_, e, _⟩ | ⟨_, _, e⟩
  · rw [e]; simp
  · rw [e]; simp
  · simp [plainL] at e; omega
def pad (l : List Int) : Array Value := #[.int .i64 (l.getD 0 0), .int .i64 (l.getD 1 0), .int .i64 (l.getD 2 0), .int .i64 (l.getD 3 0)]
theorem pad_step (l : List Int) (m : Int) (h : l.length < 4) : pad (l ++ [m]) = (pad l).setIfInBounds l.length (.int .i64 m) := by
  match l, h with
  | [], _ => rfl
  | [_], _ => rfl
  | [_, _], _ => rfl
  | [_, _, _], _ => rfl
set_option maxHeartbeats 4000000 in
set_option maxRecDepth 100000 in
theorem parse_c (s : List UInt8) (w : World) (hs : s.length ≤ 100000) : Calls Tryd.prog 17 #[.string ⟨s.toArray⟩] w fun e w' => e = RetI (parseM s) ∧ Below w.heap.size w w' := by
  have hsz : (ByteArray.mk s.toArray).size = s.length := by simp [ByteArray.size]
  go_enter Tryd.func17, Tryd.ntmps17
  go_wp2_with fail
  refine (ccut_any s _ (by omega)).mono ?_; rintro e w1 ⟨⟨bb, rfl⟩, b1⟩
  have Z1 := box_next (heap_alloc_new w (.cells #[.int .i64 0, .int .i64 0, .int .i64 0, .int .i64 0, .int .i64 0, .int .i64 0, .int .i64 0, .string ⟨#[]⟩] 29)) b1
  have B1 : Below w.heap.size w w1 := bthen ((Below.refl _ _).alloc (Nat.le_refl _) _) b1
  have hlt1 : w.heap.size < w1.heap.size := (Array.getElem?_eq_some_iff.1 Z1).1
  have hI : IB w w1.heap.size zI (w1.alloc (.cells #[.int .i64 0, .int .i64 0, .int .i64 0, .int .i64 0, .int .i64 0, .int .i64 0, .int .i64 0, .string ⟨#[]⟩] 29)) := ⟨box_next Z1 ((Below.refl _ _).alloc (Nat.le_refl _) _), heap_alloc_new _ _, bthen B1 ((Below.refl _ _).alloc (Nat.le_refl _) _), hlt1⟩
  have hrl := cutR_len s
  obtain ⟨n, hn⟩ : ∃ n, cutW s = n := ⟨_, rfl⟩
  obtain ⟨r, hr⟩ : ∃ r, cutR s = r := ⟨_, rfl⟩
  have HPM : Hid (parseM s = let op := opOf n; if op = 0 then none else let p := words (fieldsI op) r; if op = 1 then (match parseV p.2 with | none => none | some v => okI s (mk op (p.1.map num) v)) else okI s (mk op (p.1.map num) zV)) := Lib.hid (by rw [← hn, ← hr]; rfl)
  rw [hr] at hrl
  rw [hn, hr]
  have HI := Lib.hid hI
  clear hn hr Z1 B1 b1 hI
  go_wp2_with fail
  generalize (w1.alloc (.cells #[.int .i64 0, .int .i64 0, .int .i64 0, .int .i64 0, .int .i64 0, .int .i64 0, .int .i64 0, .string ⟨#[]⟩] 29)) = W2 at *
  obtain ⟨g, hg⟩ : ∃ g, w1.heap.size = g := ⟨_, rfl⟩
  rw [hg] at HI hlt1
  rw [hg]
  clear hg
  have hob := op_bounds n
  obtain ⟨P, hP⟩ : ∃ P, opOf n = P := ⟨_, rfl⟩
  have HP := Lib.hid hP
  rw [hP] at hob HPM
  clear hP
  go_loopw [8] (fun ov wr => ∃ j : Nat, 1 ≤ j ∧ j ≤ 18 ∧ ov = .int .i64 (j : Int) ∧ Hid (IB w g ⟨if P < (j : Int) then P else 0, 0, 0, 0, 0, zV⟩ wr)) (fun ov _ => 18 - (intOf ov).toNat)
  case atStart => exact ⟨1, by omega, by omega, rfl, Lib.hid (by rw [show (if P < ((1 : Nat) : Int) then P else 0) = 0 by split <;> omega]; exact HI.out)⟩
  case round =>
    obtain ⟨j, hj1, hj2, rfl, IH⟩ := hrel
    clear HI
    by_cases hlt : j ≤ 17
    · have hjl : (j : Int) ≤ 17 := by omega
      have hnm := name_op (n := n) hj1 hlt
      rw [HP.out] at hnm
      go_wp2_with fail
      refine (name_any (j : Int) _).mono ?_; rintro e w3 ⟨rfl, b3⟩
      have I3 := Lib.hid (IH.out.next b3)
      have I4 := I3.out
      obtain ⟨x0, x1, x2, x3, x4, x5, x6, x7⟩ := cells8c I4.t
      obtain ⟨f0, f1, f2, f3, f4, f5, f6, f7⟩ := frozen8c I4.t
      obtain ⟨z0, z1, z2, z3, z4, z5, z6, z7⟩ := cells8c I4.z
      obtain ⟨y0, y1, y2, y3, y4, y5, y6, y7⟩ := frozen8c I4.z
      clear b3 I4
      by_cases hP : P = (j : Int)
      · have hq : (nameI (j : Int) == n) = true := by rw [hnm]; simpa using hP
        have HPJ := Lib.hid hP
        clear hnm hP
        generalize nameI (j : Int) = nm at *
        go_wp2_with fail
        go_roundw
        case rel => exact ⟨j + 1, by omega, by omega, by go_num, Lib.hid (by rw [if_pos (by have := HPJ.out; omega), HPJ.out]; exact I3.out.set0 (j : Int))⟩
        case measure => simp [intOf]; omega
      · have hq : (nameI (j : Int) == n) = false := by rw [hnm]; simpa using hP
        have HPJ := Lib.hid hP
        clear hnm hP
        generalize nameI (j : Int) = nm at *
        go_wp2_with fail
        go_roundw
        case rel => exact ⟨j + 1, by omega, by omega, by go_num, Lib.hid (by rw [show (if P < ((j + 1 : Nat) : Int) then P else 0) = (if P < (j : Int) then P else 0) by have := HPJ.out; split <;> split <;> omega]; exact I3.out)⟩
        case measure => simp [intOf]; omega
    · obtain rfl : j = 18 := by omega
      have I3 := IH.out
      rw [if_pos (by omega)] at I3
      have HI3 := Lib.hid I3
      obtain ⟨x0, x1, x2, x3, x4, x5, x6, x7⟩ := cells8c I3.t
      obtain ⟨f0, f1, f2, f3, f4, f5, f6, f7⟩ := frozen8c I3.t
      obtain ⟨z0, z1, z2, z3, z4, z5, z6, z7⟩ := cells8c I3.z
      obtain ⟨y0, y1, y2, y3, y4, y5, y6, y7⟩ := frozen8c I3.z
      clear I3 IH
      by_cases h0 : P = 0
      · have g0 : (P == 0) = true := by simpa using h0
        have HN : Hid (parseM s = none) := Lib.hid (HPM.out.trans (if_pos h0))
        clear h0
        go_wp2_with fail
        refine bodyPost_ret (v := .tuple #[insV zI, .bool false]) (by simp [results, Tryd.results17, go_sem, insV, insC, zI, zV, z0, z1, z2, z3, z4, z5, z6, z7]) rfl ?_
        refine ⟨by rw [HN.out]; rfl, ?_⟩
        have := HI3.out.b
        repeat (first | (with_reducible exact Below.refl _ _) | (with_reducible assumption) | refine Below.setCell ?_ (by simp <;> omega) _ | refine Below.alloc ?_ (by simp <;> omega) _ | refine Below.drew ?_)
      · have g0 : (P == 0) = false := by simpa using h0
        have I4 := HI3.out.next ((Below.refl _ _).alloc (Nat.le_refl _) (.cells #[.int .i64 0, .int .i64 0, .int .i64 0, .int .i64 0] 58))
        obtain ⟨u0, u1, u2, u3, u4, u5, u6, u7⟩ := cells8c I4.t
        have A4 : (wr.alloc (.cells #[.int .i64 0, .int .i64 0, .int .i64 0, .int .i64 0] 58)).heap[wr.heap.size]? = some (.cells (pad []) 58 (0, 0)) := heap_alloc_new _ _
        have hgl : g < wr.heap.size := (Array.getElem?_eq_some_iff.1 HI3.out.t).1
        have HI4 := Lib.hid I4
        have HA4 := Lib.hid A4
        have HPM2 := Lib.hid (HPM.out.trans (if_neg h0))
        clear I4 A4 h0
        go_wp2_with fail
        clear x0 x1 x2 x3 x4 x5 x6 x7 f0 f1 f2 f3 f4 f5 f6 f7 z0 z1 z2 z3 z4 z5 z6 z7 y0 y1 y2 y3 y4 y5 y6 y7
        refine (fields_any P _).mono ?_; rintro e w3 ⟨rfl, rfl⟩
        have hF4 := fields_le P
        obtain ⟨F, hF⟩ : ∃ F, fieldsI P = F := ⟨_, rfl⟩
        rw [hF] at hF4 HPM2
        rw [hF]
        have HFF := Lib.hid hF
        obtain ⟨ga, hga⟩ : ∃ ga, wr.heap.size = ga := ⟨_, rfl⟩
        rw [hga] at HA4 hgl
        rw [hga]
        generalize (wr.alloc (.cells #[.int .i64 0, .int .i64 0, .int .i64 0, .int .i64 0] 58)) = W4 at *
        clear hF hga u0 u1 u2 u3 u4 u5 u6 u7 HI3 HPM
        go_wp2_with fail
        go_loopw [5, 37] (fun rv iv wx => ∃ j : Nat, j ≤ F ∧ iv = .int .i64 (j : Int) ∧ rv = .string ⟨(words j r).2.toArray⟩ ∧ Hid (wx.heap[ga]? = some (.cells (pad ((words j r).1.map num)) 58 (0, 0))) ∧ Hid (IB w g ⟨P, 0, 0, 0, 0, zV⟩ wx)) (fun _ iv _ => F - (intOf iv).toNat)
        case atStart => exact ⟨0, by omega, rfl, rfl, HA4, HI4⟩
        case round =>
          obtain ⟨j, hj, rfl, rfl, HA, HIB⟩ := hrel
          clear HA4 HI4
          by_cases hlt2 : j < F
          · have hjF : (j : Int) < (F : Int) := by omega
            have hj4 : (j : Int) < 4 := by omega
            have hwl := words_rest j r
            have hsn := words_snoc j r
            have hwlen := words_len j r
            have hcl := cutW_len (words j r).2
            obtain ⟨rest, hrest⟩ : ∃ x, (words j r).2 = x := ⟨_, rfl⟩
            obtain ⟨ws, hws⟩ : ∃ x, (words j r).1 = x := ⟨_, rfl⟩
            rw [hrest] at hwl hcl
            rw [hrest, hws] at hsn
            rw [hws] at hwlen HA
            rw [hrest]
            have HSN := Lib.hid hsn
            have hstp := Lib.hid (pad_step (ws.map num) (num (cutW rest)) (by rw [List.length_map]; omega))
            rw [List.length_map, hwlen] at hstp
            clear hsn hrest hws
            obtain ⟨cw, hcw⟩ : ∃ x, cutW rest = x := ⟨_, rfl⟩
            rw [hcw] at hcl hstp
            have HCW := Lib.hid hcw
            go_wp2_with fail
            refine (ccut_any rest _ (by omega)).mono ?_; rintro e w5 ⟨⟨b5, rfl⟩, b5'⟩
            rw [hcw]
            clear hcw
            have HA5 := Lib.hid (box_next HA.out b5')
            have HI5 := Lib.hid (HIB.out.next b5')
            clear b5' HA HIB
            go_wp2_with fail
            refine (number_c cw _ (by omega)).mono ?_; rintro e w6 ⟨rfl, b6⟩
            have HA6 := Lib.hid (box_next HA5.out b6)
            have HI6 := Lib.hid (HI5.out.next b6)
            have hc6 : ∃ v, w6.cell? ⟨ga, j, none⟩ = some v := by
              rw [Lib.cell_of_heap HA6.out]
              have h4 : (pad (ws.map num)).size = 4 := rfl
              exact ⟨_, Array.getElem?_eq_getElem (by rw [h4]; omega)⟩
            obtain ⟨cv, hcv⟩ := hc6
            have hfz := Lib.frozen_of_heap HA6.out j
            clear b6 HA5 HI5
            go_wp2_with fail
            go_roundw
            case rel =>
              refine ⟨j + 1, by omega, by go_num, by rw [HSN.out], Lib.hid ?_, Lib.hid ⟨?_, ?_, ?_, HI6.out.g⟩⟩
              · rw [HSN.out, heap_setC HA6.out, ← hstp.out]
                rw [List.map_append, HCW.out]; rfl
              · exact (Below.heap_setCell _ _ _ _ (show w.heap.size ≠ ga by omega)).trans HI6.out.z
              · exact (Below.heap_setCell _ _ _ _ (show g ≠ ga by omega)).trans HI6.out.t
              · exact HI6.out.b.setCell (show w.heap.size ≤ ga by omega) _
            case measure => simp [intOf]; omega
          · obtain rfl : j = F := by omega
            have hwlen := words_len j r
            have hwr := words_rest j r
            obtain ⟨rest, hrest⟩ : ∃ x, (words j r).2 = x := ⟨_, rfl⟩
            obtain ⟨ns, hns⟩ : ∃ x, (words j r).1.map num = x := ⟨_, rfl⟩
            have hnl : ns.length = fieldsI P := by rw [← hns, List.length_map, hwlen, HFF.out]
            have hnf : ∀ m ∈ ns, fit m := by
              intro m hm; rw [← hns, List.mem_map] at hm; obtain ⟨q, _, rfl⟩ := hm; exact num_fit q
            rw [hrest] at hwr HPM2
            rw [hns] at HA HPM2
            rw [hrest]
            have htd := Lib.hid (fun (v : Val) (h0 : P ≠ 1 → v = zV) (h1 : P = 1 → goodV v) (hlo : 1 ≤ P) => tidy_mk (v := v) hlo hob.2 hnl hnf h0 h1)
            clear hrest hns hwlen hnl hnf
            obtain ⟨N0, hN0⟩ : ∃ x, ns.getD 0 0 = x := ⟨_, rfl⟩
            obtain ⟨N1, hN1⟩ : ∃ x, ns.getD 1 0 = x := ⟨_, rfl⟩
            obtain ⟨N2, hN2⟩ : ∃ x, ns.getD 2 0 = x := ⟨_, rfl⟩
            obtain ⟨N3, hN3⟩ : ∃ x, ns.getD 3 0 = x := ⟨_, rfl⟩
            have HMK : Hid (∀ v, mk P ns v = ⟨P, N0, N1, N2, N3, v⟩) := Lib.hid (fun v => by unfold mk; rw [hN0, hN1, hN2, hN3])
            have HA2 : wr.heap[ga]? = some (.cells #[.int .i64 N0, .int .i64 N1, .int .i64 N2, .int .i64 N3] 58 (0, 0)) := by
              have := HA.out; unfold pad at this; rwa [hN0, hN1, hN2, hN3] at this
            clear hN0 hN1 hN2 hN3
            have q0 : wr.cell? ⟨ga, 0, none⟩ = some (.int .i64 N0) := by rw [Lib.cell_of_heap HA2]; rfl
            have q1 : wr.cell? ⟨ga, 1, none⟩ = some (.int .i64 N1) := by rw [Lib.cell_of_heap HA2]; rfl
            have q2 : wr.cell? ⟨ga, 2, none⟩ = some (.int .i64 N2) := by rw [Lib.cell_of_heap HA2]; rfl
            have q3 : wr.cell? ⟨ga, 3, none⟩ = some (.int .i64 N3) := by rw [Lib.cell_of_heap HA2]; rfl
            have hI := HIB.out
            obtain ⟨x0, x1, x2, x3, x4, x5, x6, x7⟩ := cells8c hI.t
            obtain ⟨f0, f1, f2, f3, f4, f5, f6, f7⟩ := frozen8c hI.t
            obtain ⟨z0, z1, z2, z3, z4, z5, z6, z7⟩ := cells8c hI.z
            obtain ⟨y0, y1, y2, y3, y4, y5, y6, y7⟩ := frozen8c hI.z
            have hgne : ga ≠ g := by omega
            clear hI HA HA2
            by_cases h1 : P = 1
            · have g1 : (P == 1) = true := by simpa using h1
              have HP1 := Lib.hid h1
              clear h1
              have HP2 : Hid (parseM s = match parseV rest with | none => none | some v => okI s (mk P ns v)) := Lib.hid (HPM2.out.trans (if_pos HP1.out))
              go_wp2_with fail
              go_region
              have hI5 := HIB.out.set4 N0 N1 N2 N3
              clear x0 x1 x2 x3 x4 x5 x6 x7 f0 f1 f2 f3 f4 f5 f6 f7 z0 z1 z2 z3 z4 z5 z6 z7 y0 y1 y2 y3 y4 y5 y6 y7 q0 q1 q2 q3
              generalize ((((wr.setCell ⟨g, 1, none⟩ (.int .i64 N0)).setCell ⟨g, 2, none⟩ (.int .i64 N1)).setCell ⟨g, 3, none⟩ (.int .i64 N2)).setCell ⟨g, 4, none⟩ (.int .i64 N3)).drew = W5 at *
              have HI5 := Lib.hid hI5
              obtain ⟨x0, x1, x2, x3, x4, x5, x6, x7⟩ := cells8c hI5.t
              obtain ⟨f0, f1, f2, f3, f4, f5, f6, f7⟩ := frozen8c hI5.t
              obtain ⟨z0, z1, z2, z3, z4, z5, z6, z7⟩ := cells8c hI5.z
              obtain ⟨y0, y1, y2, y3, y4, y5, y6, y7⟩ := frozen8c hI5.z
              clear hI5
              have HRP := Lib.hid (resP_cases rest)
              go_wp2_with fail
              refine (parse_any rest _ (by omega)).mono ?_; rintro e w6 ⟨rfl, b6⟩
              have hI6 := HI5.out.next b6
              clear x0 x1 x2 x3 x4 x5 x6 x7 f0 f1 f2 f3 f4 f5 f6 f7 z0 z1 z2 z3 z4 z5 z6 z7 y0 y1 y2 y3 y4 y5 y6 y7
              rcases HRP.out with ⟨v, h1, h2, h3⟩ | ⟨h1, h3⟩
              · rw [h3]
                have HPV := Lib.hid (HP2.out.trans (by rw [h1]))
                have hT := htd.out v (fun h => absurd HP1.out h) (fun _ => h2) (by have := HP1.out; omega)
                rw [HMK.out] at hT
                have HGV := Lib.hid h2
                have hI7 := hI6.next ((Below.refl _ _).alloc (Nat.le_refl _) (.cells #[.int .i64 v.k, .int .i64 v.n, .string ⟨v.s.toArray⟩] 27))
                have HI7 := Lib.hid hI7
                have HTD := Lib.hid hT
                have hX6 := heap_alloc_new w6 (.cells #[.int .i64 v.k, .int .i64 v.n, .string ⟨v.s.toArray⟩] 27)
                have k0 : (w6.alloc (.cells #[.int .i64 v.k, .int .i64 v.n, .string ⟨v.s.toArray⟩] 27)).cell? ⟨w6.heap.size, 0, none⟩ = some (.int .i64 v.k) := by rw [Lib.cell_of_heap hX6]; rfl
                have k1 : (w6.alloc (.cells #[.int .i64 v.k, .int .i64 v.n, .string ⟨v.s.toArray⟩] 27)).cell? ⟨w6.heap.size, 1, none⟩ = some (.int .i64 v.n) := by rw [Lib.cell_of_heap hX6]; rfl
                have k2 : (w6.alloc (.cells #[.int .i64 v.k, .int .i64 v.n, .string ⟨v.s.toArray⟩] 27)).cell? ⟨w6.heap.size, 2, none⟩ = some (.string ⟨v.s.toArray⟩) := by rw [Lib.cell_of_heap hX6]; rfl
                obtain ⟨x0, x1, x2, x3, x4, x5, x6, x7⟩ := cells8c hI7.t
                obtain ⟨f0, f1, f2, f3, f4, f5, f6, f7⟩ := frozen8c hI7.t
                obtain ⟨z0, z1, z2, z3, z4, z5, z6, z7⟩ := cells8c hI7.z
                obtain ⟨y0, y1, y2, y3, y4, y5, y6, y7⟩ := frozen8c hI7.z
                have hvs := good_len h2
                clear h1 h2 h3 hT hI6 hI7 hX6
                unfold vv
                go_wp2_with fail
                have hI8 := HI7.out.setV v
                generalize (((w6.alloc (.cells #[.int .i64 v.k, .int .i64 v.n, .string ⟨v.s.toArray⟩] 27)).setCell ⟨g, 5, none⟩ (.int .i64 v.k)).setCell ⟨g, 6, none⟩ (.int .i64 v.n)).setCell ⟨g, 7, none⟩ (.string ⟨v.s.toArray⟩) = W8 at *
                clear x0 x1 x2 x3 x4 x5 x6 x7 f0 f1 f2 f3 f4 f5 f6 f7 z0 z1 z2 z3 z4 z5 z6 z7 y0 y1 y2 y3 y4 y5 y6 y7 k0 k1 k2
                have HI8 : Hid (IB w g ⟨P, N0, N1, N2, N3, v⟩ W8) := Lib.hid hI8
                clear hI8
                refine (cprint_any ⟨P, N0, N1, N2, N3, v⟩ _ hvs HTD.out.fit HGV.out.2).mono ?_; rintro e w9 ⟨rfl, b9⟩
                have hI9 := HI8.out.next b9
                have HI9 := Lib.hid hI9
                obtain ⟨x0, x1, x2, x3, x4, x5, x6, x7⟩ := cells8c hI9.t
                obtain ⟨f0, f1, f2, f3, f4, f5, f6, f7⟩ := frozen8c hI9.t
                obtain ⟨z0, z1, z2, z3, z4, z5, z6, z7⟩ := cells8c hI9.z
                obtain ⟨y0, y1, y2, y3, y4, y5, y6, y7⟩ := frozen8c hI9.z
                clear hI9 b9
                have hpq := HPV.out
                rw [HMK.out] at hpq
                unfold okI at hpq
                obtain ⟨pl, hpl⟩ : ∃ pl, printI ⟨P, N0, N1, N2, N3, v⟩ = pl := ⟨_, rfl⟩
                rw [hpl] at hpq
                rw [hpl]
                clear hpl
                cases hq : (pl == s)
                · have HN : Hid (parseM s = none) := Lib.hid (hpq.trans (if_neg (by simpa using hq)))
                  clear hpq
                  go_wp2_with fail
                  refine bodyPost_ret (v := .tuple #[insV zI, .bool false]) (by simp [results, Tryd.results17, go_sem, insV, insC, zI, zV, z0, z1, z2, z3, z4, z5, z6, z7]) rfl ?_
                  refine ⟨by rw [HN.out]; rfl, ?_⟩
                  have := HI9.out.b
                  repeat (first | (with_reducible exact Below.refl _ _) | (with_reducible assumption) | refine Below.setCell ?_ (by simp <;> omega) _ | refine Below.alloc ?_ (by simp <;> omega) _ | refine Below.drew ?_)
                · have HN : Hid (parseM s = some ⟨P, N0, N1, N2, N3, v⟩) := Lib.hid (hpq.trans (if_pos (by simpa using hq)))
                  clear hpq
                  go_wp2_with fail
                  refine bodyPost_ret (v := .tuple #[insV ⟨P, N0, N1, N2, N3, v⟩, .bool true]) (by simp [results, Tryd.results17, go_sem, insV, insC, zI, zV, z0, z1, z2, z3, z4, z5, z6, z7]) rfl ?_
                  refine ⟨by rw [HN.out]; rfl, ?_⟩
                  have := HI9.out.b
                  repeat (first | (with_reducible exact Below.refl _ _) | (with_reducible assumption) | refine Below.setCell ?_ (by simp <;> omega) _ | refine Below.alloc ?_ (by simp <;> omega) _ | refine Below.drew ?_)
              · rw [h3]
                have HN : Hid (parseM s = none) := Lib.hid (HP2.out.trans (by rw [h1]))
                have hI7 := hI6.next ((Below.refl _ _).alloc (Nat.le_refl _) (.cells #[.int .i64 0, .int .i64 0, .string ⟨#[]⟩] 27))
                have HI7 := Lib.hid hI7
                obtain ⟨x0, x1, x2, x3, x4, x5, x6, x7⟩ := cells8c hI7.t
                obtain ⟨f0, f1, f2, f3, f4, f5, f6, f7⟩ := frozen8c hI7.t
                obtain ⟨z0, z1, z2, z3, z4, z5, z6, z7⟩ := cells8c hI7.z
                obtain ⟨y0, y1, y2, y3, y4, y5, y6, y7⟩ := frozen8c hI7.z
                clear h1 h3 hI6 hI7
                unfold vv
                go_wp2_with fail
                refine bodyPost_ret (v := .tuple #[insV zI, .bool false]) (by simp [results, Tryd.results17, go_sem, insV, insC, zI, zV, z0, z1, z2, z3, z4, z5, z6, z7]) rfl ?_
                refine ⟨by rw [HN.out]; rfl, ?_⟩
                have := HI7.out.b
                repeat (first | (with_reducible exact Below.refl _ _) | (with_reducible assumption) | refine Below.setCell ?_ (by simp <;> omega) _ | refine Below.alloc ?_ (by simp <;> omega) _ | refine Below.drew ?_)
            · have g1 : (P == 1) = false := by simpa using h1
              have HP1 := Lib.hid h1
              have HPV : Hid (parseM s = okI s (mk P ns zV)) := Lib.hid (HPM2.out.trans (if_neg h1))
              have hT := htd.out zV (fun _ => rfl) (fun h => absurd h h1) (by have h2 := hob.1; have hp0 : P ≠ 0 := (by simpa using g0); omega)
              rw [HMK.out] at hT
              have HTD := Lib.hid hT
              clear h1 hT
              go_wp2_with fail
              go_region
              have hI5 := HIB.out.set4 N0 N1 N2 N3
              clear x0 x1 x2 x3 x4 x5 x6 x7 f0 f1 f2 f3 f4 f5 f6 f7 z0 z1 z2 z3 z4 z5 z6 z7 y0 y1 y2 y3 y4 y5 y6 y7 q0 q1 q2 q3
              generalize ((((wr.setCell ⟨g, 1, none⟩ (.int .i64 N0)).setCell ⟨g, 2, none⟩ (.int .i64 N1)).setCell ⟨g, 3, none⟩ (.int .i64 N2)).setCell ⟨g, 4, none⟩ (.int .i64 N3)).drew = W5 at *
              have HI8 := Lib.hid hI5
              have hvs : zV.s.length ≤ 1000 := by decide
              obtain ⟨x0, x1, x2, x3, x4, x5, x6, x7⟩ := cells8c hI5.t
              obtain ⟨f0, f1, f2, f3, f4, f5, f6, f7⟩ := frozen8c hI5.t
              obtain ⟨z0, z1, z2, z3, z4, z5, z6, z7⟩ := cells8c hI5.z
              obtain ⟨y0, y1, y2, y3, y4, y5, y6, y7⟩ := frozen8c hI5.z
              clear hI5
              go_wp2_with fail
              clear x0 x1 x2 x3 x4 x5 x6 x7 f0 f1 f2 f3 f4 f5 f6 f7 z0 z1 z2 z3 z4 z5 z6 z7 y0 y1 y2 y3 y4 y5 y6 y7
              refine (cprint_any ⟨P, N0, N1, N2, N3, zV⟩ _ hvs HTD.out.fit (show fit 0 from ⟨by decide, by decide⟩)).mono ?_; rintro e w9 ⟨rfl, b9⟩
              have hI9 := HI8.out.next b9
              have HI9 := Lib.hid hI9
              obtain ⟨x0, x1, x2, x3, x4, x5, x6, x7⟩ := cells8c hI9.t
              obtain ⟨f0, f1, f2, f3, f4, f5, f6, f7⟩ := frozen8c hI9.t
              obtain ⟨z0, z1, z2, z3, z4, z5, z6, z7⟩ := cells8c hI9.z
              obtain ⟨y0, y1, y2, y3, y4, y5, y6, y7⟩ := frozen8c hI9.z
              clear hI9 b9
              have hpq := HPV.out
              rw [HMK.out] at hpq
              unfold okI at hpq
              obtain ⟨pl, hpl⟩ : ∃ pl, printI ⟨P, N0, N1, N2, N3, zV⟩ = pl := ⟨_, rfl⟩
              rw [hpl] at hpq
              rw [hpl]
              clear hpl
              cases hq : (pl == s)
              · have HN : Hid (parseM s = none) := Lib.hid (hpq.trans (if_neg (by simpa using hq)))
                clear hpq
                go_wp2_with fail
                refine bodyPost_ret (v := .tuple #[insV zI, .bool false]) (by simp [results, Tryd.results17, go_sem, insV, insC, zI, zV, z0, z1, z2, z3, z4, z5, z6, z7]) rfl ?_
                refine ⟨by rw [HN.out]; rfl, ?_⟩
                have := HI9.out.b
                repeat (first | (with_reducible exact Below.refl _ _) | (with_reducible assumption) | refine Below.setCell ?_ (by simp <;> omega) _ | refine Below.alloc ?_ (by simp <;> omega) _ | refine Below.drew ?_)
              · have HN : Hid (parseM s = some ⟨P, N0, N1, N2, N3, zV⟩) := Lib.hid (hpq.trans (if_pos (by simpa using hq)))
                clear hpq
                go_wp2_with fail
                refine bodyPost_ret (v := .tuple #[insV ⟨P, N0, N1, N2, N3, zV⟩, .bool true]) (by simp [results, Tryd.results17, go_sem, insV, insC, zI, zV, z0, z1, z2, z3, z4, z5, z6, z7]) rfl ?_
                refine ⟨by rw [HN.out]; rfl, ?_⟩
                have := HI9.out.b
                repeat (first | (with_reducible exact Below.refl _ _) | (with_reducible assumption) | refine Below.setCell ?_ (by simp <;> omega) _ | refine Below.alloc ?_ (by simp <;> omega) _ | refine Below.drew ?_)
end Go.Proofs.YtpodniljpinigaaDoor.C
