/- Tables in memory; the contracts of billhooklaw06.Light, schema.Fits, PutRow and GetRow (of bytes that a row that fits has). -/
import Derived.Test.YtpkoijlbbfffiaaRowMem
import Derived.Test.YtpkoijlbbfffiaaValGet
import Derived.Test.YtpkoijlbbfffiaaLaws2
import Derived.Deep.DeepCutAuto
namespace Go.Proofs.Ytpkoijlbbfffiaa.R
open Go.RowKit O V

structure TCol where
  name : List UInt8
  k : Int
  m : Int
def ColC (x : TCol) (cs : List Value) : Prop := cs = [.string ⟨x.name.toArray⟩, .int .i64 x.k, .int .i64 x.m] ∧ x.name.length ≤ 9223372036854775807
theorem ColC.size : ∀ (a : TCol) vs, ColC a vs → vs.length = 3 := by rintro a vs ⟨rfl, _⟩; rfl
def CRow (w : World) (A : Option Addr) (n c : Nat) (l : List TCol) : Prop := ∃ xs, Rd w w.heap.size 3 A n xs ∧ Reps ColC l xs ∧ n ≤ c ∧ c ≤ 9223372036854775807
theorem CRow.len {w : World} {A : Option Addr} {n c : Nat} {l : List TCol} (h : CRow w A n c l) : l.length = n := by
  obtain ⟨xs, h1, h2, _⟩ := h
  exact h1.len_of ColC.size h2 (by omega)
theorem CRow.cap {w : World} {A : Option Addr} {n c : Nat} {l : List TCol} (h : CRow w A n c l) : n ≤ c ∧ c ≤ 9223372036854775807 := by
  obtain ⟨xs, _, _, h3, h4⟩ := h
  exact ⟨h3, h4⟩
theorem CRow.next {w W : World} {A : Option Addr} {n c : Nat} {l : List TCol} (h : CRow w A n c l) (b : Below w.heap.size w W) : CRow W A n c l := by
  obtain ⟨xs, h1, h2, h3, h4⟩ := h
  exact ⟨xs, h1.next b, h2, h3, h4⟩
theorem CRow.at_ {w : World} {A : Option Addr} {n c : Nat} {l : List TCol} (h : CRow w A n c l) {k : Nat} (hk : k < l.length) : ∃ b off, A = some ⟨b, off, none⟩ ∧ b < w.heap.size ∧ l[k].name.length ≤ 9223372036854775807 ∧
    ∀ W, Below w.heap.size w W → W.cell? ⟨b, off + k * 3, none⟩ = some (.string ⟨l[k].name.toArray⟩) ∧ W.cell? ⟨b, off + k * 3 + 1, none⟩ = some (.int .i64 l[k].k) ∧ W.cell? ⟨b, off + k * 3 + 2, none⟩ = some (.int .i64 l[k].m) := by
  obtain ⟨xs, h1, h2, h3, h4⟩ := h
  obtain ⟨b, off, vs, e, hb, ⟨rfl, ho⟩, hc⟩ := h1.elem ColC.size h2 hk (by omega)
  refine ⟨b, off, e, hb, ho, fun W bW => ⟨?_, ?_, ?_⟩⟩
  · exact (bW.cell (p := ⟨b, off + k * 3 + 0, none⟩) hb).trans (hc 0 (by omega))
  · exact (bW.cell (p := ⟨b, off + k * 3 + 1, none⟩) hb).trans (hc 1 (by omega))
  · exact (bW.cell (p := ⟨b, off + k * 3 + 2, none⟩) hb).trans (hc 2 (by omega))
def tab (name : List UInt8) (rows : Int) (A : Option Addr) (n c : Nat) : Value := .agg #[.string ⟨name.toArray⟩, .int .i64 rows, .slice A n c]
def lightC (x : TCol) : Bool := decide ((x.name.length : Int) ≤ 40)
def lightT (name : List UInt8) (l : List TCol) : Bool := decide ((name.length : Int) ≤ 40) && (decide (l.length ≤ 20) && l.all lightC)
set_option maxHeartbeats 1000000 in
set_option maxRecDepth 100000 in
theorem lightTab_any (name : List UInt8) (rows : Int) (A : Option Addr) (n c : Nat) (l : List TCol) (w : World) (h : CRow w A n c l) (hname : name.length ≤ 9223372036854775807) :
    Calls Try.prog 42 #[tab name rows A n c] w fun e w' => e = .returned (.bool (lightT name l)) ∧ Below w.heap.size w w' := by
  have hl := h.len
  have hcap := h.cap
  have HV := Lib.hid h
  have HL := Lib.hid hl
  have hn63 : n ≤ 9223372036854775807 := by omega
  have hsz : (ByteArray.mk name.toArray).size = name.length := by simp [ByteArray.size]
  clear h
  simp only [tab]
  by_cases h40 : (name.length : Int) > 40
  · have d0 : decide ((name.length : Int) > 40) = true := by simp; omega
    have hr : Hid (lightT name l = false) := Lib.hid (by unfold lightT; rw [decide_eq_false (by omega)]; rfl)
    clear hl
    go_enter Try.func42, Try.ntmps42
    go_wp2_with fail
    go_ret
    exact ⟨by rw [hr.out]; rfl, (Below.refl _ _).alloc (Nat.le_refl _) _⟩
  · have d0 : decide ((name.length : Int) > 40) = false := by simp; omega
    by_cases h20 : (n : Int) > 20
    · have d1 : decide ((n : Int) > 20) = true := by simp; omega
      have hr : Hid (lightT name l = false) := Lib.hid (by unfold lightT; rw [decide_eq_true (by omega), decide_eq_false (by omega)]; rfl)
      clear hl
      go_enter Try.func42, Try.ntmps42
      go_wp2_with fail
      go_ret
      exact ⟨by rw [hr.out]; rfl, (Below.refl _ _).alloc (Nat.le_refl _) _⟩
    · have d1 : decide ((n : Int) > 20) = false := by simp; omega
      have hr : Hid (lightT name l = l.all lightC) := Lib.hid (by unfold lightT; rw [decide_eq_true (by omega), decide_eq_true (by omega)]; rfl)
      clear hl
      go_enter Try.func42, Try.ntmps42
      go_wp2_with fail
      go_loopw [4, 18] (fun _ i wr => ∃ k : Nat, k ≤ n ∧ i = .int .i64 k ∧ Hid ((l.take k).all lightC = true) ∧ Below w.heap.size w wr) (fun _ i _ => n - (intOf i).toNat)
      case atStart => exact ⟨0, by omega, rfl, Lib.hid (by simp), (Below.refl _ _).alloc (Nat.le_refl _) _⟩
      case round =>
        obtain ⟨k, hk, rfl, H, hb⟩ := hrel
        by_cases hlt : k < n
        · have hlt' : k < l.length := by rw [HL.out]; exact hlt
          obtain ⟨b, off, rfl, hbl, hs, hc⟩ := HV.out.at_ hlt'
          obtain ⟨c0, c1, c2⟩ := hc wr hb
          have hn := Lib.hid (allT_step hlt' H.out)
          have hno := Lib.hid (allT_no (p := lightC) hlt')
          generalize l[k] = v at *
          have hsz2 : (ByteArray.mk v.name.toArray).size = v.name.length := by simp [ByteArray.size]
          by_cases h100 : (v.name.length : Int) > 40
          · have d2 : decide ((v.name.length : Int) > 40) = true := by simp; omega
            have hno' := Lib.hid (hno.out (by unfold lightC; simp; omega))
            go_wp2_with fail
            go_ret
            exact ⟨by rw [hr.out, hno'.out]; rfl, hb.alloc hb.size _⟩
          · have d2 : decide ((v.name.length : Int) > 40) = false := by simp; omega
            go_wp2_with fail
            go_roundw
            case rel => exact ⟨k + 1, by omega, by go_num, Lib.hid (by rw [hn.out]; unfold lightC; simp; omega), hb.alloc hb.size _⟩
            case measure => simp [intOf]; omega
        · obtain rfl : k = n := by omega
          go_wp2_with fail
          go_ret
          refine ⟨?_, hb⟩
          have := H.out
          rw [← HL.out, List.take_length] at this
          rw [hr.out, this]
          rfl
def fitZ (p : Val × TCol) : Bool := fitsV p.1 p.2.k p.2.m
def fitsR (cols : List TCol) (a : List Val) : Bool := (a.zip cols).all fitZ && decide (a.length = cols.length)
set_option maxHeartbeats 1000000 in
set_option maxRecDepth 100000 in
theorem fitsR_any (name : List UInt8) (rows : Int) (A : Option Addr) (n c : Nat) (l : List TCol) (A' : Option Addr) (n' c' : Nat) (a : List Val) (w : World) (h : CRow w A n c l) (h' : VRow w A' n' c' a) (hla : ∀ v ∈ a, v.s.length ≤ 1000000000000) :
    Calls Try.prog 57 #[tab name rows A n c, .slice A' n' c'] w fun e w' => e = .returned (.bool (fitsR l a)) ∧ Below w.heap.size w w' := by
  have hl := h.len
  have hl' := h'.len
  have hcap := h.cap
  have hcap' := h'.cap
  have HV := Lib.hid h
  have HV' := Lib.hid h'
  have HL := Lib.hid hl
  have HL' := Lib.hid hl'
  obtain ⟨m, hm⟩ : ∃ m : Nat, min n' n = m := ⟨_, rfl⟩
  have hzl : Hid ((a.zip l).length = m) := Lib.hid (by simp; omega)
  have ex : min (n' : Int) (n : Int) = (m : Int) := by omega
  have ex2 : min n' n = m := hm
  have hm1 : m ≤ n := by omega
  have hm2 : m ≤ n' := by omega
  have hfin : Hid ((a.zip l).all fitZ = true → fitsR l a = ((n' : Int) == (n : Int))) := Lib.hid (by intro h; unfold fitsR; rw [h, hl, hl', Bool.true_and, Bool.eq_iff_iff]; simp; omega)
  have hfno : Hid ((a.zip l).all fitZ = false → fitsR l a = false) := Lib.hid (by intro h; unfold fitsR; rw [h]; rfl)
  have x0 : (w.alloc (.cells #[.string ⟨name.toArray⟩, .int .i64 rows, .slice A n c] 61)).heap[w.heap.size]? = some (.cells #[.string ⟨name.toArray⟩, .int .i64 rows, .slice A n c] 61 (0, 0)) := alloc_at rfl
  have HX0 := Lib.hid x0
  clear h h' hl hl' hm x0
  simp only [tab]
  go_enter Try.func57, Try.ntmps57
  go_wp2_with fail
  go_loopw [5, 12] (fun _ i wr => ∃ k : Nat, k ≤ m ∧ i = .int .i64 k ∧ Hid (((a.zip l).take k).all fitZ = true) ∧ wr.heap[w.heap.size]? = some (.cells #[.string ⟨name.toArray⟩, .int .i64 rows, .slice A n c] 61 (0, 0)) ∧ Below w.heap.size w wr) (fun _ i _ => m - (intOf i).toNat)
  case atStart => exact ⟨0, by omega, rfl, Lib.hid (by simp), HX0.out, (Below.refl _ _).alloc (Nat.le_refl _) _⟩
  case round =>
    obtain ⟨k, hk, rfl, H, hbx, hb⟩ := hrel
    obtain ⟨x0, x1, x2⟩ := cells3 hbx
    have HBX := Lib.hid hbx; clear hbx
    by_cases hlt : k < m
    · have hlt1 : k < a.length := by rw [HL'.out]; omega
      have hlt2 : k < l.length := by rw [HL.out]; omega
      have hltz : k < (a.zip l).length := by rw [hzl.out]; exact hlt
      obtain ⟨b1, off, rfl, hbl, ho, hc⟩ := HV'.out.at_ hlt1
      obtain ⟨b2, off2, rfl, hbl2, ho2, hc2⟩ := HV.out.at_ hlt2
      have HC := Lib.hid hc
      have HC2 := Lib.hid hc2
      have hvl := hla a[k] (List.getElem_mem hlt1)
      have hst := Lib.hid (allT_step hltz H.out)
      have hno := Lib.hid (allT_no (p := fitZ) hltz)
      rw [List.getElem_zip] at hst hno
      clear hc hc2 ho2 ho
      generalize a[k] = x at *
      generalize l[k] = y at *
      have hki : (k : Int) < (n : Int) := by omega
      have hki' : (k : Int) < (n' : Int) := by omega
      cases hf : fitsV x y.k y.m
      · have hno' := Lib.hid (hfno.out (hno.out hf))
        go_wp2_with fail
        refine wp_region_sched [(0, true), (1, true), (2, true), (3, true), (4, true), (5, true), (6, true), (7, true), (8, true), (9, true), (10, false), (11, true)] (by kernel_rfl) (by kernel_rfl) (fun _ _ d _ _ h => by cases d <;> exact h) ?_
        refine swith (fun W hW => (HC.out W (hb.drew.trans (hW.out.mono hb.size)))) (fun q1 => ?_)
        refine swith (fun W hW => (HC2.out W (hb.drew.trans (hW.out.mono hb.size)))) (fun q2 => ?_)
        refine swith (fun W hW => (cells3 (box_next (w := wr.drew) HBX.out hW.out))) (fun q3 => ?_)
        repeat (first | (refine sreadx rfl rfl ?_; apply Exists.intro; apply And.intro; (· (intro W hW; first | (go_simp; done) | (go_simp; with_reducible rfl) | (go_simp; rw [if_neg (by omega)]; done) | (go_simp; rw [if_neg (by omega)]; with_reducible rfl))); simp only [Act.put, List.setIfInBounds_toArray, List.set_cons_zero, List.set_cons_succ]) | (refine sskip rfl rfl ?_; simp only [Act.put, List.setIfInBounds_toArray, List.set_cons_zero, List.set_cons_succ]))
        refine scall rfl rfl (fun K hK => ?_)
        go_simp
        refine (fits_any x y.k y.m _ hvl).mono ?_; rintro e w2 ⟨rfl, b2⟩; rw [hf]
        go_wp2_with fail
        refine hK.out _ _ (by exact b2) ?_
        clear hK K
        try simp only [Act.put, List.setIfInBounds_toArray, List.set_cons_zero, List.set_cons_succ]
        repeat (first | (refine sreadx rfl rfl ?_; apply Exists.intro; apply And.intro; (· (intro W hW; first | (go_simp; done) | (go_simp; with_reducible rfl) | (go_simp; rw [if_neg (by omega)]; done) | (go_simp; rw [if_neg (by omega)]; with_reducible rfl))); simp only [Act.put, List.setIfInBounds_toArray, List.set_cons_zero, List.set_cons_succ]) | (refine sskip rfl rfl ?_; simp only [Act.put, List.setIfInBounds_toArray, List.set_cons_zero, List.set_cons_succ]))
        refine sdone ?_
        go_wp2_with fail
        go_ret
        exact ⟨by rw [hno'.out]; rfl, hb.drew.trans (b2.mono hb.size)⟩
      · go_wp2_with fail
        refine wp_region_sched [(0, true), (1, true), (2, true), (3, true), (4, true), (5, true), (6, true), (7, true), (8, true), (9, true), (10, false), (11, true)] (by kernel_rfl) (by kernel_rfl) (fun _ _ d _ _ h => by cases d <;> exact h) ?_
        refine swith (fun W hW => (HC.out W (hb.drew.trans (hW.out.mono hb.size)))) (fun q1 => ?_)
        refine swith (fun W hW => (HC2.out W (hb.drew.trans (hW.out.mono hb.size)))) (fun q2 => ?_)
        refine swith (fun W hW => (cells3 (box_next (w := wr.drew) HBX.out hW.out))) (fun q3 => ?_)
        repeat (first | (refine sreadx rfl rfl ?_; apply Exists.intro; apply And.intro; (· (intro W hW; first | (go_simp; done) | (go_simp; with_reducible rfl) | (go_simp; rw [if_neg (by omega)]; done) | (go_simp; rw [if_neg (by omega)]; with_reducible rfl))); simp only [Act.put, List.setIfInBounds_toArray, List.set_cons_zero, List.set_cons_succ]) | (refine sskip rfl rfl ?_; simp only [Act.put, List.setIfInBounds_toArray, List.set_cons_zero, List.set_cons_succ]))
        refine scall rfl rfl (fun K hK => ?_)
        go_simp
        refine (fits_any x y.k y.m _ hvl).mono ?_; rintro e w2 ⟨rfl, b2⟩; rw [hf]
        go_wp2_with fail
        refine hK.out _ _ (by exact b2) ?_
        clear hK K
        try simp only [Act.put, List.setIfInBounds_toArray, List.set_cons_zero, List.set_cons_succ]
        repeat (first | (refine sreadx rfl rfl ?_; apply Exists.intro; apply And.intro; (· (intro W hW; first | (go_simp; done) | (go_simp; with_reducible rfl) | (go_simp; rw [if_neg (by omega)]; done) | (go_simp; rw [if_neg (by omega)]; with_reducible rfl))); simp only [Act.put, List.setIfInBounds_toArray, List.set_cons_zero, List.set_cons_succ]) | (refine sskip rfl rfl ?_; simp only [Act.put, List.setIfInBounds_toArray, List.set_cons_zero, List.set_cons_succ]))
        refine sdone ?_
        go_wp2_with fail
        go_roundw
        case rel => exact ⟨k + 1, by omega, by go_num, Lib.hid (by rw [hst.out]; exact hf), box_next (w := wr.drew) HBX.out b2, hb.drew.trans (b2.mono hb.size)⟩
        case measure => simp [intOf]; omega
    · obtain rfl : k = m := by omega
      have hz : (a.zip l).all fitZ = true := by
        have := H.out
        rwa [← hzl.out, List.take_length] at this
      have hfin' := Lib.hid (hfin.out hz)
      clear hz
      go_wp2_with fail
      go_ret
      refine ⟨?_, hb⟩
      rw [hfin'.out]
      rfl
def putR (a : List Val) : List UInt8 := a.flatMap putV
theorem putR_snoc {a : List Val} {k : Nat} (h : k < a.length) : putR (a.take (k + 1)) = putR (a.take k) ++ putV a[k] := by
  unfold putR
  rw [List.take_succ_eq_append_getElem h, List.flatMap_append]
  simp
theorem putV_len (x : Val) (ox : VOk x) (hs : x.s.length ≤ 100) : (putV x).length ≤ 1000 := by
  unfold putV
  have := uintL_len10 (zig x.n) (zig_lt _ ox.n1 ox.n2)
  have := uintL_len10 x.s.length (by omega)
  unfold textL
  repeat' split
  all_goals simp
  all_goals omega
theorem putR_len : ∀ (a : List Val), (∀ v ∈ a, VOk v ∧ v.s.length ≤ 100) → (putR a).length ≤ a.length * 1000
  | [], _ => by simp [putR]
  | v :: a, h => by
    have h1 := putV_len v (h v (by simp)).1 (h v (by simp)).2
    have h2 := putR_len a (fun u hu => h u (by simp [hu]))
    unfold putR at h2 ⊢
    rw [List.flatMap_cons, List.length_append, List.length_cons]
    omega
theorem VRow.oks {w : World} {A : Option Addr} {n c : Nat} {l : List Val} (h : VRow w A n c l) : ∀ v ∈ l, VOk v := by
  intro v hv
  obtain ⟨k, hk, rfl⟩ := List.getElem_of_mem hv
  obtain ⟨_, _, _, _, ho, _⟩ := h.at_ hk
  exact ho
theorem lightR_all {l : List Val} (h : lightR l = true) : l.length ≤ 20 ∧ ∀ v ∈ l, v.s.length ≤ 100 := by
  unfold lightR at h
  simp [lightV] at h
  exact ⟨h.1, fun v hv => by have := h.2 v hv; omega⟩
set_option maxHeartbeats 1000000 in
set_option maxRecDepth 100000 in
theorem putRow_any (A : Option Addr) (n c : Nat) (a : List Val) (w : World) (h : VRow w A n c a) (hla : lightR a = true) : Calls Try.prog 58 #[.slice none 0 0, .slice A n c] w (RetB (putR a) w) := by
  have hl := h.len
  have hcap := h.cap
  obtain ⟨hl20, hl100⟩ := lightR_all hla
  have hok := h.oks
  have hpl : ∀ k, (putR (a.take k)).length ≤ 20000 := fun k => by
    have := putR_len (a.take k) (fun v hv => ⟨hok v (List.mem_of_mem_take hv), hl100 v (List.mem_of_mem_take hv)⟩)
    have h2 : (a.take k).length ≤ 20 := by simp; omega
    omega
  have HV := Lib.hid h
  have HL := Lib.hid hl
  have HP := Lib.hid hpl
  have HK := Lib.hid hl100
  have HO := Lib.hid hok
  clear h hl hpl hl100 hla hok
  go_enter Try.func58, Try.ntmps58
  go_wp2_with fail
  refine (clone_any none 0 0 [] _ Rd.nil_ (by omega) (fun _ => rfl)).mono ?_; rintro e w1 ⟨A1, n1, c1, rfl, o1, b1⟩
  have HO1 := Lib.hid o1
  have HB1 := Lib.hid b1
  clear o1 b1
  go_wp2_with fail
  go_loopw [5, 7, 12] (fun v _ i wr => ∃ (k : Nat) (A' : Option Addr) (n' c' : Nat), k ≤ n ∧ i = .int .i64 k ∧ v = .slice A' n' c' ∧ wr.ownsRow w.heap.size 5 1 (.slice A' n' c') n' (bv (putR (a.take k))) ∧ Below w.heap.size w wr) (fun _ _ i _ => n - (intOf i).toNat)
  case atStart => exact ⟨0, A1, n1, c1, by omega, rfl, rfl, by simpa [putR] using HO1.out, HB1.out⟩
  case round =>
    obtain ⟨k, A', n', c', hk, rfl, rfl, ho, hb⟩ := hrel
    clear HO1 HB1
    have hn' : n' ≤ 20000 := by have := own_len ho; have := HP.out k; omega
    by_cases hlt : k < n
    · have hlt' : k < a.length := by rw [HL.out]; exact hlt
      obtain ⟨b, off, rfl, hbl, hv, hc⟩ := HV.out.at_ hlt'
      obtain ⟨c0, c1', c2⟩ := hc wr hb
      have hst := Lib.hid (putR_snoc hlt')
      have h100 := HK.out a[k] (List.getElem_mem hlt')
      generalize a[k] = x at *
      have HOo := Lib.hid ho
      clear ho
      have hnil : A' = none → n' = 0 := fun e => by
        rcases HOo.out.2 with ⟨hv, h0⟩ | ⟨g, cap, cur, hv, _⟩
        · exact h0
        · subst e; cases hv
      go_wp2_with fail
      refine (put_any A' n' c' (putR (a.take k)) x _ ((Rd.of_own HOo.out).next ((Below.refl _ _).alloc (Nat.le_refl _) _)) (by omega) hnil (by omega) hv.n1 hv.n2).mono ?_; rintro e w2 ⟨A2, n2, c2', rfl, o2, b2⟩
      have HO2 := Lib.hid o2
      have B2 : Below w.heap.size w w2 := (hb.alloc hb.size _).trans (b2.mono (by simp; have := hb.size; omega))
      clear o2 b2
      have hbs := hb.size
      go_wp2_with fail
      go_roundw
      case rel => exact ⟨k + 1, A2, n2, c2', by omega, by go_num, rfl, by rw [hst.out]; exact own_more HO2.out (by simp; omega), B2⟩
      case measure => simp [intOf]; omega
    · obtain rfl : k = n := by omega
      go_wp2_with fail
      go_ret
      rw [← HL.out, List.take_length] at ho
      exact ⟨A', n', c', rfl, ho, hb⟩
theorem valE : Elem Try.prog 34 23 3 32 (.agg #[.int .i64 0, .int .i64 0, .string ByteArray.empty]) := by
  obtain ⟨i, hi, h1, h2, h3⟩ := info_parts (show (Try.prog.info? 23).map (fun i => (i.zero, i.size, i.bytes)) = some (some (.agg #[.int .i64 0, .int .i64 0, .string ByteArray.empty]), 3, 32) by kernel_rfl)
  exact ⟨Try.underlying34, i, hi, h1, h2, h3, rfl, by omega⟩
theorem own_capG {w : World} {base e size n c : Nat} {A : Option Addr} {xs : List Value} (h : w.ownsRow base e size (.slice A n c) n xs) : n ≤ c ∧ c ≤ 9223372036854775807 := by
  rcases h.2 with ⟨hv, h0⟩ | ⟨g, cap, cur, hv, _, _, hnc, hcm, _⟩
  · injection hv with _ h1 h2; rw [h1, h2]; omega
  · injection hv with _ _ hc; rw [hc]; unfold maxLen at hcm; exact ⟨hnc, hcm⟩
theorem VRow.own {w : World} {base n c : Nat} {A : Option Addr} {xs : List Value} {l : List Val} (h : w.ownsRow base 23 3 (.slice A n c) n xs) (hr : Reps ValC l xs) : VRow w A n c l :=
  ⟨xs, Rd.of_own h, hr, (own_capG h).1, (own_capG h).2⟩
theorem own_set {w : World} {base e size n b j : Nat} {v : Value} {xs : List Value} (h : w.ownsRow base e size v n xs) (u : Value) (hne : v.ownBlock ≠ some b) : (w.setCell ⟨b, j, none⟩ u).ownsRow base e size v n xs :=
  h.kept (row := some b) ⟨rfl, rfl, rfl, by simp, fun i _ hi => Below.heap_setCell _ _ _ _ (fun e => hi (by rw [e]))⟩ (.inr hne)
theorem getR_step {a : List Val} {k : Nat} (h : k < a.length) (hr : right a[k] = true) (ho : VOk a[k]) : getV (putR a) ((putR (a.take k)).length : Nat) = some (a[k], (putV a[k]).length) := by
  have e : putR a = putR (a.take k) ++ (putV a[k] ++ putR (a.drop (k + 1))) := by
    conv => lhs; rw [← List.take_append_drop k a, List.drop_eq_getElem_cons h]
    unfold putR
    rw [List.flatMap_append, List.flatMap_cons]
  rw [e]
  exact getV_put _ _ _ hr ho.n1 ho.n2
/-- What GetRow returns of a row's bytes. -/
def RetRow (a : List Val) (k : Nat) (w : World) (e : Ending) (w' : World) : Prop := ∃ A n c, e = .returned (.tuple #[.slice A n c, .int .i64 (k : Int), .bool true]) ∧ VRow w' A n c a ∧ Below w.heap.size w w'
set_option maxHeartbeats 2000000 in
set_option maxRecDepth 100000 in
theorem getRow_back (B : Option Addr) (m d : Nat) (name : List UInt8) (rows : Int) (A : Option Addr) (n c : Nat) (l : List TCol) (a : List Val) (w : World) (hB : Rd w w.heap.size 1 B m (bv (putR a))) (hmd : m ≤ d) (hd : d ≤ 9223372036854775807) (hm : m ≤ 1000000)
    (h : CRow w A n c l) (hf : fitsR l a = true) (hr : ∀ v ∈ a, right v = true ∧ VOk v ∧ v.s.length ≤ 100) (hn : n ≤ 20) :
    Calls Try.prog 59 #[.slice B m d, .int .i64 0, tab name rows A n c] w (RetRow a m w) := by
  have hl := h.len
  have hal : a.length = n := by unfold fitsR at hf; simp at hf; omega
  have hml : (putR a).length = m := by have := hB.1; simp at this; omega
  have hcap := h.cap
  have hpl : ∀ k, (putR (a.take k)).length ≤ 20000 := fun k => by
    have := putR_len (a.take k) (fun v hv => ⟨(hr v (List.mem_of_mem_take hv)).2.1, (hr v (List.mem_of_mem_take hv)).2.2⟩)
    have h2 : (a.take k).length ≤ 20 := by simp; omega
    omega
  have HV := Lib.hid h
  have HB := Lib.hid hB
  have HF := Lib.hid hf
  have HR := Lib.hid hr
  have HA := Lib.hid hal
  have HM := Lib.hid hml
  have HP := Lib.hid hpl
  have x0 : (w.alloc (.cells #[.string ⟨name.toArray⟩, .int .i64 rows, .slice A n c] 61)).heap[w.heap.size]? = some (.cells #[.string ⟨name.toArray⟩, .int .i64 rows, .slice A n c] 61 (0, 0)) := alloc_at rfl
  have HX0 := Lib.hid x0
  clear h hB hf hr hal hml hl x0 hpl
  simp only [tab]
  obtain ⟨w1, hw1⟩ : ∃ w1, w.alloc (.cells #[.string ⟨name.toArray⟩, .int .i64 rows, .slice A n c] 61) = w1 := ⟨_, rfl⟩
  have BW : Hid (Below w.heap.size w w1) := Lib.hid (by rw [← hw1]; exact (Below.refl _ _).alloc (Nat.le_refl _) _)
  have SW : w1.heap.size = w.heap.size + 1 := by rw [← hw1]; simp
  have HW1 := Lib.hid hw1
  rw [hw1] at HX0
  clear hw1
  have HSW := Lib.hid SW
  clear SW
  go_enter Try.func59, Try.ntmps59
  go_wp2_with fail
  rw [HW1.out]
  go_loopw [6, 7, 8, 9, 10] (fun v nx ok i _ wr => ∃ (k : Nat) (A' : Option Addr) (n' c' : Nat) (xs : List Value), k ≤ n ∧ i = .int .i64 k ∧ v = .slice A' n' c' ∧ nx = .int .i64 ((putR (a.take k)).length : Nat) ∧ ok = .bool true ∧ wr.ownsRow w1.heap.size 23 3 (.slice A' n' c') n' xs ∧ Reps ValC (a.take k) xs ∧ Below w1.heap.size w1 wr) (fun _ _ _ i _ _ => n - (intOf i).toNat)
  case atStart => exact ⟨0, none, 0, 0, [], by omega, rfl, rfl, by simp [putR], rfl, ⟨by simp, .inl ⟨rfl, rfl⟩⟩, by simp [Reps], Below.refl _ _⟩
  case round =>
    obtain ⟨k, A', n', c', xs, hk, rfl, rfl, rfl, rfl, ho, hre, hb⟩ := hrel
    have hbx := box_next HX0.out hb
    obtain ⟨x0, x1, x2⟩ := cells3 hbx
    have hb0 : Below w.heap.size w wr := BW.out.trans (hb.mono BW.out.size)
    have hn' : n' ≤ 20 := by
      have e1 := (Rd.of_own ho).len_of ValC.size hre (by omega)
      simp at e1
      omega
    have HO := Lib.hid ho
    have HRe := Lib.hid hre
    have HBx := Lib.hid hbx
    have hbs := hb.size
    have hw1s := HSW.out
    have hp1 := HP.out k
    clear ho hre hbx
    by_cases hlt : k < n
    · have hlt' : k < a.length := by rw [HA.out]; exact hlt
      obtain ⟨r1, r2, r3⟩ := HR.out a[k] (List.getElem_mem hlt')
      have hg := Lib.hid (getR_step hlt' r1 r2)
      have hst := Lib.hid (putR_snoc hlt')
      have hre2 : Hid (Reps ValC (a.take (k + 1)) (xs ++ [.int .i64 a[k].k, .int .i64 a[k].n, .string ⟨a[k].s.toArray⟩])) := Lib.hid (by rw [List.take_succ_eq_append_getElem hlt']; exact HRe.out.append (.one ⟨rfl, r2⟩))
      have hp2 := HP.out (k + 1)
      rw [hst.out, List.length_append] at hp2
      clear HRe r1 r2 r3
      generalize a[k] = x at *
      generalize hq : (putR (a.take k)).length = p at *
      have HQ := Lib.hid hq; clear hq
      generalize hq2 : (putV x).length = j at *
      have HQ2 := Lib.hid hq2; clear hq2
      go_wp2_with fail
      refine (get_any B m d (p : Nat) (putR a) _ (HB.out.next (hb0.alloc hb0.size _)) hmd (by omega) hd).mono ?_; rintro e w2 ⟨rfl, b2⟩
      rw [hg.out]
      simp only [resV, vv]
      have hb2s : wr.heap.size < w2.heap.size := Nat.lt_of_lt_of_le (by simp) b2.size
      have o2 := own_below (HO.out.alloc _) b2
      have B2 : Below w1.heap.size w1 w2 := (hb.alloc hbs _).trans (b2.mono (by simp; omega))
      have y2 : w2.heap[wr.heap.size]? = some (.cells #[.int .i64 0, .int .i64 0, .string ⟨#[]⟩] 23 (0, 0)) := box_next (alloc_at rfl) b2
      have z0 : w2.frozen? ⟨wr.heap.size, 0, none⟩ = false := Lib.frozen_of_heap y2 0
      have z1 : w2.frozen? ⟨wr.heap.size, 1, none⟩ = false := Lib.frozen_of_heap y2 1
      have z2 : w2.frozen? ⟨wr.heap.size, 2, none⟩ = false := Lib.frozen_of_heap y2 2
      obtain ⟨y0, y1, y2'⟩ := cells3 y2
      have HO2 := Lib.hid o2
      have HB2 := Lib.hid B2
      have hne : (Value.slice A' n' c').ownBlock ≠ some wr.heap.size := fun e => by have := (HO.out.lt _ e).2; omega
      clear o2 B2 b2 y2 HO HBx
      have OW : Hid (((((w2.setCell ⟨wr.heap.size, 0, none⟩ (.int .i64 x.k)).setCell ⟨wr.heap.size, 1, none⟩ (.int .i64 x.n)).setCell ⟨wr.heap.size, 2, none⟩ (.string ⟨x.s.toArray⟩)).alloc (.cells #[.int .i64 x.k, .int .i64 x.n, .string ⟨x.s.toArray⟩] 23)).ownsRow w1.heap.size 23 3 (.slice A' n' c') n' xs) := Lib.hid ((own_set (own_set (own_set HO2.out _ hne) _ hne) _ hne).alloc _)
      have RM : Hid (Rd ((((w2.setCell ⟨wr.heap.size, 0, none⟩ (.int .i64 x.k)).setCell ⟨wr.heap.size, 1, none⟩ (.int .i64 x.n)).setCell ⟨wr.heap.size, 2, none⟩ (.string ⟨x.s.toArray⟩)).alloc (.cells #[.int .i64 x.k, .int .i64 x.n, .string ⟨x.s.toArray⟩] 23)) ((((w2.setCell ⟨wr.heap.size, 0, none⟩ (.int .i64 x.k)).setCell ⟨wr.heap.size, 1, none⟩ (.int .i64 x.n)).setCell ⟨wr.heap.size, 2, none⟩ (.string ⟨x.s.toArray⟩)).heap.size + 1) 3 (some ⟨w2.heap.size, 0, none⟩) 1 [.int .i64 x.k, .int .i64 x.n, .string ⟨x.s.toArray⟩]) := Lib.hid (Rd.made _ [.int .i64 x.k, .int .i64 x.n, .string ⟨x.s.toArray⟩] rfl (by simp))
      have hS1 : w1.heap.size ≤ ((((w2.setCell ⟨wr.heap.size, 0, none⟩ (.int .i64 x.k)).setCell ⟨wr.heap.size, 1, none⟩ (.int .i64 x.n)).setCell ⟨wr.heap.size, 2, none⟩ (.string ⟨x.s.toArray⟩)).alloc (.cells #[.int .i64 x.k, .int .i64 x.n, .string ⟨x.s.toArray⟩] 23)).heap.size := by simp; omega
      have HS1 := Lib.hid hS1; clear hS1
      go_wp2_with (at_builtin; refine wpList_app rfl (.tmp 37) (.tmp 39) valE rfl w1.heap.size xs rfl OW.out rfl [.int .i64 x.k, .int .i64 x.n, .string ⟨x.s.toArray⟩] RM.out (by simp [Value.oneCell']) (by unfold maxLen; omega) (by omega) HS1.out ?_; intro A3 c3 w3 o3 g3 _)
      have B3 : Below w1.heap.size w1 w3 := below_app ((((HB2.out.setCell hbs _).setCell hbs _).setCell hbs _).alloc (by simp; omega) _) OW.out g3 HS1.out
      have HO3 := Lib.hid o3
      have HB3 := Lib.hid B3
      clear o3 B3 g3
      go_wp2_with fail
      go_roundw
      case rel => exact ⟨k + 1, A3, n' + 1, c3, _, by omega, by go_num, rfl, by rw [hst.out, List.length_append, HQ.out, HQ2.out]; rfl, rfl, HO3.out, hre2.out, HB3.out⟩
      case measure => simp [intOf]; omega
    · obtain rfl : k = n := by omega
      have hta : a.take k = a := by rw [← HA.out, List.take_length]
      have hre3 := HRe.out
      rw [hta] at hre3
      have hpp : (putR (a.take k)).length = m := by rw [hta, HM.out]
      have hvr := VRow.own HO.out hre3
      have HVR := Lib.hid hvr
      have HPP := Lib.hid hpp
      clear hta hre3 hpp hvr
      go_wp2_with fail
      refine (fitsR_any name rows A k c l A' n' c' a _ (HV.out.next hb0) HVR.out (fun v hv => by have := (HR.out v hv).2.2; omega)).mono ?_; rintro e w2 ⟨rfl, b2⟩
      rw [HF.out]
      go_wp2_with fail
      go_ret3
      exact ⟨A', n', c', by rw [HPP.out]; rfl, HVR.out.next b2, hb0.trans (b2.mono hb0.size)⟩
end Go.Proofs.Ytpkoijlbbfffiaa.R
