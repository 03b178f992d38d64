/- The contract of the lexer's Print. -/
import Derived.Test.YtpodniljpinigaaLexAll2
import Derived.Test.YtpodniljpinigaaShelfStr
namespace Go.Proofs.Ytpodniljpinigaa.X
open Go.RowKit O V S

theorem joinB_cons (x : List UInt8) (r : List (List UInt8)) : joinB (x :: r) = x ++ Lib.joinTail [32] r := by
  induction r generalizing x with
  | nil => simp [joinB, Lib.joinTail]
  | cons y r ih =>
    have e : joinB (x :: y :: r) = x ++ 32 :: joinB (y :: r) := rfl
    rw [e, ih y]
    simp [Lib.joinTail]
theorem joinB_eq (l : List (List UInt8)) : Lib.join l [32] = joinB l := by
  cases l with
  | nil => rfl
  | cons x r => rw [Lib.join_cons, joinB_cons]
theorem joinB_snoc (x : List UInt8) : ∀ l : List (List UInt8), joinB (l ++ [x]) = if l = [] then x else joinB l ++ 32 :: x
  | [] => rfl
  | [y] => by simp [joinB]
  | y :: z :: r => by
    have e : joinB (y :: z :: r ++ [x]) = y ++ 32 :: joinB (z :: r ++ [x]) := rfl
    have e2 : joinB (y :: z :: r) = y ++ 32 :: joinB (z :: r) := rfl
    rw [e, joinB_snoc x (z :: r), if_neg (by simp), if_neg (by simp), e2]
    simp
theorem LexU.plen {u : List UInt8} {l : List (Int × List UInt8 × Val)} {e : Int} {o : Nat} (h : LexU u l e o) : (joinB (l.map (·.2.1))).length ≤ 2 * u.length := by
  induction h with
  | fin _ => simp [joinB]
  | err _ _ _ => simp [joinB]
  | @tok u v l e o h hv he hr ih =>
    have hp := tokL_pos v he
    have h1 := skip_len _ u (Nat.le_refl _)
    rw [h] at h1
    rw [List.length_drop] at ih
    have hx : (v.take (tokL v).n).length ≤ (tokL v).n := by rw [List.length_take]; omega
    cases l with
    | nil => simp only [List.map_cons, List.map_nil, joinB]; omega
    | cons y l =>
      have e2 : joinB (List.map (·.2.1) (((tokL v).k, v.take (tokL v).n, (tokL v).v) :: y :: l)) = v.take (tokL v).n ++ 32 :: joinB (List.map (·.2.1) (y :: l)) := rfl
      rw [e2, List.length_append, List.length_cons]
      omega
abbrev strV (s : List UInt8) : Value := .string ⟨s.toArray⟩
theorem strE : Elem Try.prog 60 9 1 16 (.string ByteArray.empty) := by
  obtain ⟨i, hi, h1, h2, h3⟩ := info_parts (show (Try.prog.info? 9).map (fun i => (i.zero, i.size, i.bytes)) = some (some (.string ByteArray.empty), 1, 16) by kernel_rfl)
  exact ⟨Try.underlying60, i, hi, h1, h2, h3, rfl, by omega⟩
theorem own_cap {w : World} {base e size n c : Nat} {A : Option Addr} {xs : List Value} (h : w.ownsRow base e size (.slice A n c) n xs) : n ≤ c := by
  rcases h.2 with ⟨hv, h0⟩ | ⟨g, cap, cur, hv, _, _, hnc, _⟩
  · rw [h0]; exact Nat.zero_le _
  · injection hv with _ _ hc; rw [hc]; exact hnc
theorem join_rd {w : World} {A : Option Addr} {n c : Nat} (l : List (List UInt8)) (sep : List UInt8) (h : Rd w w.heap.size 1 A n (l.map strV)) (hnc : n ≤ c) (hN : n ≤ 140737488355328) (hlen : (Lib.join l sep).length ≤ 140737488355328) :
    Calls Try.prog 43 #[.slice A n c, .string ⟨sep.toArray⟩] w fun e w' => e = .returned (.string ⟨(Lib.join l sep).toArray⟩) ∧ Below w.heap.size w w' := by
  have hl : l.length = n := by have := h.1; simp at this; omega
  rcases Nat.eq_zero_or_pos n with h0 | hn
  · subst h0
    obtain rfl : l = [] := List.eq_nil_of_length_eq_zero hl
    refine (Try.strings_Join_none A c ⟨sep.toArray⟩ w).mono ?_
    rintro e w' ⟨rfl, rfl⟩
    exact ⟨rfl, Below.refl _ _⟩
  obtain ⟨b, off, rfl, hb, hc⟩ := h.pos hn
  have he : (l.map fun s => ByteArray.mk s.toArray).map (·.data.toList) = l := by rw [List.map_map]; exact List.map_id l
  have := Try.strings_Join b off c (l.map fun s => ⟨s.toArray⟩) ⟨sep.toArray⟩ w (fun j x hx => by
    have hj : j < l.length := by
      rcases Nat.lt_or_ge j l.length with h | h
      · exact h
      · rw [List.getElem?_eq_none (by simpa using h)] at hx; cases hx
    rw [hc j (by omega)]
    simp [hj] at hx
    subst hx
    simp [hj, strV]) hb (by rw [List.length_map]; omega) (by rw [List.length_map]; omega) (by rw [he]; exact hlen)
  rw [he, List.length_map, hl] at this
  exact this
/-- All eight cells of a token that is read. -/
theorem TRow.at8 {w : World} {A : Option Addr} {n : Nat} {l : List Tk} (h : TRow w A n l) {k : Nat} (hk : k < l.length) : ∃ b off, ∃ p q r : Int, A = some ⟨b, off, none⟩ ∧ b < w.heap.size ∧
    ∀ W, Below w.heap.size w W → ((W.cell? ⟨b, off + k * 8, none⟩ = some (.int .i64 l[k].k) ∧ W.cell? ⟨b, off + k * 8 + 1, none⟩ = some (.string ⟨l[k].text.toArray⟩)) ∧ W.cell? ⟨b, off + k * 8 + 2, none⟩ = some (.int .i64 l[k].v.k) ∧ W.cell? ⟨b, off + k * 8 + 3, none⟩ = some (.int .i64 l[k].v.n) ∧ W.cell? ⟨b, off + k * 8 + 4, none⟩ = some (.string ⟨l[k].v.s.toArray⟩)) ∧ W.cell? ⟨b, off + k * 8 + 5, none⟩ = some (.int .i64 p) ∧ W.cell? ⟨b, off + k * 8 + 6, none⟩ = some (.int .i64 q) ∧ W.cell? ⟨b, off + k * 8 + 7, none⟩ = some (.int .i64 r) := by
  obtain ⟨xs, h1, h2⟩ := h.rd
  obtain ⟨b, off, vs, e, hb, ⟨p, q, r, rfl⟩, hc⟩ := h1.elem TkD.size h2 hk (by omega)
  refine ⟨b, off, p, q, r, e, hb, fun W bW => ⟨⟨⟨?_, ?_⟩, ?_, ?_, ?_⟩, ?_, ?_, ?_⟩⟩
  · exact (bW.cell (p := ⟨b, off + k * 8 + 0, none⟩) hb).trans (hc 0 (by omega))
  · exact (bW.cell (p := ⟨b, off + k * 8 + 1, none⟩) hb).trans (hc 1 (by omega))
  · exact (bW.cell (p := ⟨b, off + k * 8 + 2, none⟩) hb).trans (hc 2 (by omega))
  · exact (bW.cell (p := ⟨b, off + k * 8 + 3, none⟩) hb).trans (hc 3 (by omega))
  · exact (bW.cell (p := ⟨b, off + k * 8 + 4, none⟩) hb).trans (hc 4 (by omega))
  · exact (bW.cell (p := ⟨b, off + k * 8 + 5, none⟩) hb).trans (hc 5 (by omega))
  · exact (bW.cell (p := ⟨b, off + k * 8 + 6, none⟩) hb).trans (hc 6 (by omega))
  · exact (bW.cell (p := ⟨b, off + k * 8 + 7, none⟩) hb).trans (hc 7 (by omega))
def texts (l : List Tk) : List (List UInt8) := l.map (·.text)
theorem texts_take {l : List Tk} {k : Nat} (h : k < l.length) : texts (l.take (k + 1)) = texts (l.take k) ++ [l[k].text] := by
  unfold texts; rw [List.take_succ_eq_append_getElem h, List.map_append]; rfl
set_option maxHeartbeats 2000000 in
set_option maxRecDepth 100000 in
theorem lprint_any (A : Option Addr) (n c : Nat) (l : List Tk) (w : World) (h : TRow w A n l) (hlen : (joinB (texts l)).length ≤ 100000) :
    Calls Try.prog 26 #[.slice A n c] w fun e w' => e = .returned (.string ⟨(joinB (texts l)).toArray⟩) ∧ Below w.heap.size w w' := by
  have hl := h.len
  have hcap := h.n
  have HV := Lib.hid h
  have HL := Lib.hid hl
  have HN := Lib.hid hlen
  clear h hl hlen
  go_enter Try.func26, Try.ntmps26
  go_wp2_with fail
  go_loopw [3, 8] (fun v i wr => ∃ (k : Nat) (A1 : Option Addr) (c1 : Nat), k ≤ n ∧ i = .int .i64 k ∧ v = .slice A1 k c1 ∧ wr.ownsRow w.heap.size 9 1 (.slice A1 k c1) k ((texts (l.take k)).map strV) ∧ Below w.heap.size w wr) (fun _ i _ => n - (intOf i).toNat)
  case atStart => exact ⟨0, none, 0, by omega, rfl, rfl, World.ownsRow_nil _ _ _ _, Below.refl _ _⟩
  case round =>
    obtain ⟨k, A1, c1, hk, rfl, rfl, hown, hb⟩ := hrel
    by_cases hlt : k < n
    · have hlt' : k < l.length := by rw [HL.out]; exact hlt
      obtain ⟨b1, off, p, q, r, rfl, hbl, hc⟩ := HV.out.at8 hlt'
      have hst := Lib.hid (texts_take hlt')
      have HC := Lib.hid hc
      obtain ⟨⟨⟨x0, x1⟩, x2, x3, x4⟩, x5, x6, x7⟩ := hc wr hb
      clear hc
      have hki : (k : Int) < (n : Int) := by omega
      have hbs := hb.size
      generalize l[k] = t at *
      have HW := Lib.hid hown
      clear hown
      go_wp2_with (at_builtin; refine wpList_app rfl (.tmp 12) (.tmp 15) strE rfl w.heap.size ((texts (l.take k)).map strV) rfl ((HW.out.alloc _).alloc _) rfl [strV t.text] (Rd.made _ [strV t.text] rfl (by simp)) (by simp [Value.oneCell']) (by unfold maxLen; omega) (by omega) (by simp; omega) ?_; intro A3 c3 w3 o3 g3 _)
      rw [show List.map strV (texts (l.take k)) ++ [strV t.text] = List.map strV (texts (l.take (k + 1))) by rw [hst.out, List.map_append]; rfl] at o3
      go_roundw
      case rel => exact ⟨k + 1, A3, c3, by omega, by go_num, rfl, o3, below_own ((hb.alloc hbs _).alloc (by simp; omega) _) ((HW.out.alloc _).alloc _) g3 (Nat.le_refl _)⟩
      case measure => simp [intOf]; omega
    · obtain rfl : k = n := by omega
      have HW := Lib.hid hown
      clear hown
      have hlk : l.take k = l := List.take_of_length_le (by rw [HL.out]; omega)
      have HK := Lib.hid hlk
      clear hlk
      go_wp2_with fail
      have hj := joinB_eq (texts l)
      have R := Rd.of_own HW.out
      rw [HK.out] at R
      refine (join_rd (texts l) [32] R (own_cap HW.out) (by omega) (by rw [hj]; have := HN.out; omega)).mono ?_; rintro e w4 ⟨rfl, b4⟩
      rw [hj]
      go_wp2_with fail
      go_ret
      exact ⟨rfl, hb.trans (b4.mono hb.size)⟩
end Go.Proofs.Ytpodniljpinigaa.X
