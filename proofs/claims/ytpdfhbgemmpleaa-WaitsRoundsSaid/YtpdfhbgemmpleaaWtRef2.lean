/- The contract of the reference's Rising (layer 22). -/
import Derived.Test.YtpdfhbgemmpleaaWtRef
import Derived.Test.YtpdfhbgemmpleaaWtRow
namespace Go.Proofs.Ytpdfhbgemmpleaa.T
open Go.RowKit

theorem Rd.dropI {w : World} {B n k b off : Nat} {xs : List Value} (h : Rd w B 1 (some ⟨b, off, none⟩) n xs) (hk : k ≤ n) : Rd w B 1 (some ⟨b, off + k, none⟩) (n - k) (xs.drop k) := by
  have hl := h.1
  refine ⟨by simp; omega, fun hp => ?_⟩
  simp at hp
  obtain ⟨b', off', e, hb, hc⟩ := h.2 (by omega)
  injection e with e
  injection e with e1 e2
  subst e1 e2
  refine ⟨b, off + k, rfl, hb, fun j hj => ?_⟩
  simp at hj
  rw [show off + k + j = off + (k + j) from by omega, hc (k + j) (by omega)]
  simp
theorem rd_add {w : World} {B b n : Nat} {off : Nat} {xs : List Value} (h : Rd w B 1 (some ⟨b, off, none⟩) n xs) {j : Nat} {u : Value} (hj : xs[j]? = some u) : w.cell? ((⟨b, off, none⟩ : Addr).add j) = some u := by
  have hjl : j < xs.length := (List.getElem?_eq_some_iff.1 hj).1
  obtain ⟨b', off', e, _, hc⟩ := h.2 (by omega)
  injection e with e
  injection e with e1 e2
  subst e1 e2
  have hadd : (⟨b, off, none⟩ : Addr).add j = ⟨b, off + j, none⟩ := by by_cases h0 : j = 0 <;> simp [Addr.add, h0]
  rw [hadd, hc j hjl, hj]
theorem rd_zero {w : World} {B n : Nat} {A : Option Addr} {xs : List Value} (h : Rd w B 1 A (0 + n) ([] ++ xs)) : Rd w B 1 A n xs := by
  rw [Nat.zero_add] at h; exact h
theorem own_slice {w : World} {base e size n : Nat} {v : Value} {xs : List Value} (h : w.ownsRow base e size v n xs) (h0 : 0 < n) : ∃ A c, v = .slice A n c := by
  rcases h.2 with ⟨_, hv⟩ | ⟨g, cap, _, rfl, _⟩
  · omega
  · exact ⟨_, _, rfl⟩
theorem drop_if {w : World} {g i d k : Nat} {out : List Int} (h : NRow w (some ⟨g, 0, none⟩) i d out) (hk : k ≤ i) : Rd w w.heap.size 1 (if d = k then some ⟨g, 0, none⟩ else some ⟨g, k, none⟩) (i - k) (iv (out.drop k)) := by
  have hl := h.len
  have hn := h.n
  split
  · have : i - k = 0 := by omega
    rw [this, List.drop_of_length_le (by omega)]
    exact Rd.nil_
  · have := Rd.dropI h.rd hk
    rw [Nat.zero_add] at this
    have e : (iv out).drop k = iv (out.drop k) := by simp [iv, List.map_drop]
    rwa [e] at this
set_option maxHeartbeats 2000000 in
set_option maxRecDepth 100000 in
theorem rrising_any (A : Option Addr) (n c : Nat) (l : List Int) (w : World) (h : NRow w A n c l) (hnd : l.Nodup) (hn : n ≤ 1000) :
    Calls Try.prog 16 #[.slice A n c] w (RetN (· ∈ l) w) := by
  have hl := h.len
  have HP := Lib.hid h
  have HL := Lib.hid hl
  have HD := Lib.hid hnd
  clear h hl hnd
  go_enter Try.func16, Try.ntmps16
  go_wp2_with fail
  go_loopw [3, 5, 6, 7, 10] (fun ov _ _ _ iv wr => ∃ (i : Nat) (B : Option Addr) (d : Nat) (out : List Int), i ≤ n ∧ iv = .int .i64 (i : Int) ∧ ov = .slice B i d ∧ Hid (wr.ownsRow w.heap.size 3 1 (.slice B i d) i (T.iv out)) ∧ Hid (IsRow (· ∈ l.take i) out) ∧ Hid (Below w.heap.size w wr)) (fun _ _ _ _ iv _ => n - (intOf iv).toNat)
  case atStart => exact ⟨0, none, 0, [], by omega, rfl, rfl, Lib.hid (World.ownsRow_nil _ _ _ _), Lib.hid ⟨by simp, by simp⟩, Lib.hid (Below.refl _ _)⟩
  case round =>
    obtain ⟨i, B, d, out, hi, rfl, rfl, HO, HR, HB⟩ := hrel
    generalize wr = wo at *
    by_cases hin : i < n
    · have hini : (i : Int) < (n : Int) := by omega
      have hil : i < l.length := by rw [HL.out]; exact hin
      obtain ⟨b1, off, rfl, hbl, hc⟩ := HP.out.at hil
      have q1 := hc wo HB.out
      have HTK : Hid (l.take (i + 1) = l.take i ++ [l[i]]) := Lib.hid (List.take_succ_eq_append_getElem hil)
      have HNI : Hid (l[i] ∉ l.take i) := Lib.hid (fun hm => by
        obtain ⟨j, hj, e⟩ := List.getElem_of_mem hm
        rw [List.getElem_take] at e
        rw [List.length_take] at hj
        have := (List.getElem_inj HD.out).1 e
        omega)
      clear hc
      generalize l[i] = x at *
      have hol : out.length = i := by have := HO.out.1; simpa using this
      have HOL := Lib.hid hol
      have hic := own_capN HO.out
      have HN := Lib.hid (NRow.own HO.out)
      clear hol
      go_wp2_with fail
      go_loop [6] (fun kv => ∃ k : Nat, k ≤ i ∧ kv = .int .i64 (k : Int) ∧ Hid (∀ y ∈ out.drop k, x < y)) (fun kv => (intOf kv).toNat)
      case atStart => exact ⟨i, by omega, rfl, Lib.hid (by rw [List.drop_of_length_le (by rw [HOL.out]; exact Nat.le_refl _)]; simp)⟩
      case round =>
        obtain ⟨k, hk, rfl, HK⟩ := hrel
        by_cases hk0 : k = 0
        · have hx : 0 < k → out.getD (k - 1) 0 ≤ x := fun h => absurd hk0 (by omega)
          have HX := Lib.hid hx
          have d1 : decide ((k : Int) > 0) = false := by simp; omega
          have hnk : ¬ 0 < k := by omega
          rcases B with _ | a
          · obtain ⟨rfl, rfl⟩ : i = 0 ∧ d = 0 := by
              rcases HO.out.2 with ⟨hv, h0⟩ | ⟨g, _, _, hv, _⟩
              · injection hv with _ h1 h2
                exact ⟨h1, h2⟩
              · cases hv
            subst hk0
            clear hx hnk d1
            have ho0 : out = [] := List.eq_nil_of_length_eq_zero HOL.out
            subst ho0
            generalize hk0 : (0 : Nat) = k at hk HX
            obtain rfl : k = 0 := by omega
            have RS : Rd wo wo.heap.size 1 none (0 - 0) (T.iv (([] : List Int).drop 0)) := (Rd.nil_)
            have HRS := Lib.hid RS
            have OM := Lib.hid (own_mt wo (e := 3) (size := 1) (base := wo.heap.size) (Nat.le_refl _))
            obtain ⟨ht, ii, hii, hz, hsize, hby, hzs, hsz⟩ := intE
            have HII := Lib.hid (And.intro hii (And.intro hz (And.intro hsize (And.intro hby (And.intro hzs hsz)))))
            have hwo := HB.out.size
            clear RS ht hii hz hsize hby hzs hsz q1
            go_wp2_with (first
              | (at_builtin; refine wpList_app rfl (.tmp 29) (.tmp 32) intE rfl wo.heap.size [] rfl OM.out rfl (T.iv (([] : List Int).drop 0)) (HRS.out.next (bsz _ _)) (iv_one _) (by unfold maxLen; omega) (by omega) (by simp) ?_; intro A5 c5 w5 o5 g5 _; have B5 := below_app (bsz wo (.cells #[] 3)) OM.out g5 (by simp); have HO5 := Lib.hid o5; have HB6 := Lib.hid (bthen B5 (bsz w5 (.cells #[.int .i64 x] 3))); clear o5 g5 B5)
              | (at_builtin; (refine wpList_append_grows _ rfl (.tmp 37) (.tmp 39) 22 rfl 3 ii (.int .i64 0) 1 8 Try.underlying22 HII.out.1 HII.out.2.1 HII.out.2.2.1 HII.out.2.2.2.1 HII.out.2.2.2.2.1 HII.out.2.2.2.2.2 none 0 0 (T.iv (([] : List Int).take 0)) rfl (fun _ => ⟨rfl, rfl⟩) (by simp) (fun b e => by cases e) ⟨w5.heap.size, 0, none⟩ 1 1 [.int .i64 x] rfl rfl (fun j u hj => by have h8 := (Rd.made w5 [.int .i64 x] (e := 3) (size := 1) (n := 1) rfl rfl); exact rd_add h8 hj) (by simp [Value.oneCell']) (by omega) (by unfold maxLen; omega) (by omega) ?_; intro v7 w7 o7 g7; obtain ⟨A7, c7, rfl⟩ := own_slice o7 (by omega); have HB7 := Lib.hid (bthen HB6.out ⟨g7.os, g7.tape, g7.output, g7.size, fun k hk => g7.block k hk (by simp)⟩); have HO7 := Lib.hid (own_moreT o7 (base' := w.heap.size) (by have := HB6.out.size; omega)); have HR7 : Hid (Rd w7 w7.heap.size 1 A5 (0 - 0) (T.iv (([] : List Int).drop 0))) := Lib.hid (rd_zero ((Rd.of_own HO5.out).next ((bsz w5 (.cells #[.int .i64 x] 3)).trans ⟨g7.os, g7.tape, g7.output, g7.size, fun k hk => g7.block k (by simp; omega) (by simp)⟩))); have hs7 := HB7.out.size; clear o7 g7))
              | (at_builtin; (refine wpList_app rfl (.tmp 40) (.tmp 41) intE rfl w.heap.size _ rfl HO7.out rfl (T.iv (([] : List Int).drop 0)) HR7.out (iv_one _) (by unfold maxLen; omega) (by omega) (by omega) ?_; intro A8 c8 w8 o8 g8 _; have HO8 := Lib.hid o8; have HB8 := Lib.hid (below_app (bthen HB.out HB7.out) HO7.out g8 (by omega)); clear o8 g8)))
            go_roundw
            case rel =>
              have ho := HO8.out
              rw [show ([Value.int .i64 x] : List Value) = T.iv [x] from rfl, ← iv_append, ← iv_append, List.append_assoc] at ho
              refine ⟨1, A8, c8, ([] : List Int).take 0 ++ x :: ([] : List Int).drop 0, by omega, by go_num, rfl, Lib.hid ho, Lib.hid ?_, HB8⟩
              rw [HTK.out]
              exact ins_row (k := 0) HR.out HNI.out (by simp) (by simp) (fun h => absurd h (by omega))
            case measure => simp [intOf]; omega
          · obtain ⟨g, rfl⟩ : ∃ g, a = ⟨g, 0, none⟩ := by
              rcases HO.out.2 with ⟨hv, _⟩ | ⟨g, _, _, hv, _⟩
              · cases hv
              · injection hv with hv _ _
                injection hv with hv
                exact ⟨g, hv⟩
            have hki : (k : Int) ≤ (i : Int) := by omega
            have hkd : k ≤ d := by omega
            clear hx hk0
            have RS : Rd wo wo.heap.size 1 (if d = k then some ⟨g, 0, none⟩ else some ⟨g, k, none⟩) (i - k) (T.iv (out.drop k)) := (drop_if HN.out hk)
            have HRS := Lib.hid RS
            have OM := Lib.hid (own_mt wo (e := 3) (size := 1) (base := wo.heap.size) (Nat.le_refl _))
            obtain ⟨ht, ii, hii, hz, hsize, hby, hzs, hsz⟩ := intE
            have HII := Lib.hid (And.intro hii (And.intro hz (And.intro hsize (And.intro hby (And.intro hzs hsz)))))
            have hwo := HB.out.size
            clear RS ht hii hz hsize hby hzs hsz q1
            go_wp2_with (first
              | (at_builtin; refine wpList_app rfl (.tmp 29) (.tmp 32) intE rfl wo.heap.size [] rfl OM.out rfl (T.iv (out.drop k)) (HRS.out.next (bsz _ _)) (iv_one _) (by unfold maxLen; omega) (by omega) (by simp) ?_; intro A5 c5 w5 o5 g5 _; have B5 := below_app (bsz wo (.cells #[] 3)) OM.out g5 (by simp); have HO5 := Lib.hid o5; have HB6 := Lib.hid (bthen B5 (bsz w5 (.cells #[.int .i64 x] 3))); clear o5 g5 B5)
              | (at_builtin; refine wpList_append_grows _ rfl (.tmp 37) (.tmp 39) 22 rfl 3 ii (.int .i64 0) 1 8 Try.underlying22 HII.out.1 HII.out.2.1 HII.out.2.2.1 HII.out.2.2.2.1 HII.out.2.2.2.2.1 HII.out.2.2.2.2.2 (some ⟨g, 0, none⟩) k k (T.iv (out.take k)) rfl (fun e => by cases e) (by have := HOL.out; simp; omega) (fun b e j u hj => by cases e; exact rd_add ((HN.out.next HB6.out).take hk).rd hj) ⟨w5.heap.size, 0, none⟩ 1 1 [.int .i64 x] rfl rfl (fun j u hj => by have h8 := (Rd.made w5 [.int .i64 x] (e := 3) (size := 1) (n := 1) rfl rfl); exact rd_add h8 hj) (by simp [Value.oneCell']) (by omega) (by unfold maxLen; omega) (by omega) ?_; intro v7 w7 o7 g7; obtain ⟨A7, c7, rfl⟩ := own_slice o7 (by omega); have HB7 := Lib.hid (bthen HB6.out ⟨g7.os, g7.tape, g7.output, g7.size, fun k hk => g7.block k hk (by simp)⟩); have HO7 := Lib.hid (own_moreT o7 (base' := w.heap.size) (by have := HB6.out.size; omega)); have HR7 : Hid (Rd w7 w7.heap.size 1 A5 (i - k) (T.iv (out.drop k))) := Lib.hid (rd_zero ((Rd.of_own HO5.out).next ((bsz w5 (.cells #[.int .i64 x] 3)).trans ⟨g7.os, g7.tape, g7.output, g7.size, fun k hk => g7.block k (by simp; omega) (by simp)⟩))); have hs7 := HB7.out.size; clear o7 g7)
              | (at_builtin; (refine wpList_app rfl (.tmp 40) (.tmp 41) intE rfl w.heap.size _ rfl HO7.out rfl (T.iv (out.drop k)) HR7.out (iv_one _) (by unfold maxLen; omega) (by omega) (by omega) ?_; intro A8 c8 w8 o8 g8 _; have HO8 := Lib.hid o8; have HB8 := Lib.hid (below_app (bthen HB.out HB7.out) HO7.out g8 (by omega)); clear o8 g8)))
            go_roundw
            case rel =>
              have hlen : k + 1 + (i - k) = i + 1 := by omega
              have ho := HO8.out
              rw [hlen, show ([Value.int .i64 x] : List Value) = T.iv [x] from rfl, ← iv_append, ← iv_append, List.append_assoc] at ho
              rw [hlen]
              refine ⟨i + 1, A8, c8, out.take k ++ x :: out.drop k, by omega, by go_num, rfl, Lib.hid ho, Lib.hid ?_, HB8⟩
              rw [HTK.out]
              refine ins_row HR.out HNI.out (by have := HOL.out; omega) HK.out (fun h => ?_)
              have h9 := HX.out h
              rw [List.getD_eq_getElem?_getD, List.getElem?_eq_getElem (by have := HOL.out; omega)] at h9
              exact h9
            case measure => simp [intOf]; omega
        · have hkp : 0 < k := by omega
          obtain ⟨g, off', rfl, hbg, hcg⟩ := HN.out.at (j := k - 1) (by have := HOL.out; omega)
          obtain rfl : off' = 0 := by
            rcases HO.out.2 with ⟨hv, _⟩ | ⟨g', _, _, hv, _⟩
            · cases hv
            · injection hv with hv _ _
              injection hv with hv
              injection hv
          have qg : wo.cell? ⟨g, k - 1, none⟩ = some (.int .i64 (out[k - 1]'(by have := HOL.out; omega))) := by
            have := hcg wo (Below.refl _ _)
            rwa [Nat.zero_add] at this
          have hdr : Hid (out.drop (k - 1) = out[k - 1]'(by have := HOL.out; omega) :: out.drop k) := Lib.hid (by
            rw [List.drop_eq_getElem_cons (by have := HOL.out; omega)]
            congr 2; omega)
          have hgd : Hid (out.getD (k - 1) 0 = out[k - 1]'(by have := HOL.out; omega)) := Lib.hid (by
            rw [List.getD_eq_getElem?_getD, List.getElem?_eq_getElem (by have := HOL.out; omega)]; rfl)
          clear hcg
          generalize out[k - 1]'(by have := HOL.out; omega) = y at *
          have hki : (k : Int) ≤ (i : Int) := by omega
          have hki1 : k - 1 < i := by omega
          have hkd : k ≤ d := by omega
          have e1 : (k : Int) - 1 = ((k - 1 : Nat) : Int) := by omega
          by_cases hyx : x < y
          · have d2 : decide (y > x) = true := by simpa using hyx
            have HK2 : Hid (∀ z ∈ out.drop (k - 1), x < z) := Lib.hid (fun z hz => by
              rw [hdr.out] at hz
              rcases List.mem_cons.1 hz with rfl | hz
              · exact hyx
              · exact HK.out z hz)
            go_wp2_with fail
            go_round
            case rel => exact ⟨k - 1, by omega, by go_num, HK2⟩
            case measure => simp [intOf]; omega
          · have d2 : decide (y > x) = false := by simpa using hyx
            have HX : Hid (0 < k → out.getD (k - 1) 0 ≤ x) := Lib.hid (fun _ => by rw [hgd.out]; omega)
            clear hk0
            have RS : Rd wo wo.heap.size 1 (if d = k then some ⟨g, 0, none⟩ else some ⟨g, k, none⟩) (i - k) (T.iv (out.drop k)) := (drop_if HN.out hk)
            have HRS := Lib.hid RS
            have OM := Lib.hid (own_mt wo (e := 3) (size := 1) (base := wo.heap.size) (Nat.le_refl _))
            obtain ⟨ht, ii, hii, hz, hsize, hby, hzs, hsz⟩ := intE
            have HII := Lib.hid (And.intro hii (And.intro hz (And.intro hsize (And.intro hby (And.intro hzs hsz)))))
            have hwo := HB.out.size
            clear RS ht hii hz hsize hby hzs hsz q1
            go_wp2_with (first
              | (at_builtin; refine wpList_app rfl (.tmp 29) (.tmp 32) intE rfl wo.heap.size [] rfl OM.out rfl (T.iv (out.drop k)) (HRS.out.next (bsz _ _)) (iv_one _) (by unfold maxLen; omega) (by omega) (by simp) ?_; intro A5 c5 w5 o5 g5 _; have B5 := below_app (bsz wo (.cells #[] 3)) OM.out g5 (by simp); have HO5 := Lib.hid o5; have HB6 := Lib.hid (bthen B5 (bsz w5 (.cells #[.int .i64 x] 3))); clear o5 g5 B5)
              | (at_builtin; refine wpList_append_grows _ rfl (.tmp 37) (.tmp 39) 22 rfl 3 ii (.int .i64 0) 1 8 Try.underlying22 HII.out.1 HII.out.2.1 HII.out.2.2.1 HII.out.2.2.2.1 HII.out.2.2.2.2.1 HII.out.2.2.2.2.2 (some ⟨g, 0, none⟩) k k (T.iv (out.take k)) rfl (fun e => by cases e) (by have := HOL.out; simp; omega) (fun b e j u hj => by cases e; exact rd_add ((HN.out.next HB6.out).take hk).rd hj) ⟨w5.heap.size, 0, none⟩ 1 1 [.int .i64 x] rfl rfl (fun j u hj => by have h8 := (Rd.made w5 [.int .i64 x] (e := 3) (size := 1) (n := 1) rfl rfl); exact rd_add h8 hj) (by simp [Value.oneCell']) (by omega) (by unfold maxLen; omega) (by omega) ?_; intro v7 w7 o7 g7; obtain ⟨A7, c7, rfl⟩ := own_slice o7 (by omega); have HB7 := Lib.hid (bthen HB6.out ⟨g7.os, g7.tape, g7.output, g7.size, fun k hk => g7.block k hk (by simp)⟩); have HO7 := Lib.hid (own_moreT o7 (base' := w.heap.size) (by have := HB6.out.size; omega)); have HR7 : Hid (Rd w7 w7.heap.size 1 A5 (i - k) (T.iv (out.drop k))) := Lib.hid (rd_zero ((Rd.of_own HO5.out).next ((bsz w5 (.cells #[.int .i64 x] 3)).trans ⟨g7.os, g7.tape, g7.output, g7.size, fun k hk => g7.block k (by simp; omega) (by simp)⟩))); have hs7 := HB7.out.size; clear o7 g7)
              | (at_builtin; (refine wpList_app rfl (.tmp 40) (.tmp 41) intE rfl w.heap.size _ rfl HO7.out rfl (T.iv (out.drop k)) HR7.out (iv_one _) (by unfold maxLen; omega) (by omega) (by omega) ?_; intro A8 c8 w8 o8 g8 _; have HO8 := Lib.hid o8; have HB8 := Lib.hid (below_app (bthen HB.out HB7.out) HO7.out g8 (by omega)); clear o8 g8)))
            go_roundw
            case rel =>
              have hlen : k + 1 + (i - k) = i + 1 := by omega
              have ho := HO8.out
              rw [hlen, show ([Value.int .i64 x] : List Value) = T.iv [x] from rfl, ← iv_append, ← iv_append, List.append_assoc] at ho
              rw [hlen]
              refine ⟨i + 1, A8, c8, out.take k ++ x :: out.drop k, by omega, by go_num, rfl, Lib.hid ho, Lib.hid ?_, HB8⟩
              rw [HTK.out]
              refine ins_row HR.out HNI.out (by have := HOL.out; omega) HK.out (fun h => ?_)
              have h9 := HX.out h
              rw [List.getD_eq_getElem?_getD, List.getElem?_eq_getElem (by have := HOL.out; omega)] at h9
              exact h9
            case measure => simp [intOf]; omega
    · obtain rfl : i = n := by omega
      have hr := HR.out
      rw [List.take_of_length_le (by rw [HL.out]; exact Nat.le_refl _)] at hr
      have HR2 := Lib.hid hr
      clear hr HR
      go_wp2_with fail
      go_ret
      exact ⟨_, _, _, out, rfl, HO.out, HR2.out, HB.out⟩
end Go.Proofs.Ytpdfhbgemmpleaa.T
