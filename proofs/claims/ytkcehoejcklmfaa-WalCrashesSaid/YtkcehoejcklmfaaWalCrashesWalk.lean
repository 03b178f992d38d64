/- What Open sees behind a crash, and behind Open again, in plain Lean; WalCrashes' walk. -/
import Derived.Test.YtkcehoejcklmfaaWalTexts
import Derived.Test.YtkcehoejcklmfaaWalCrashPlain2
import Derived.Test.YtkcehoejcklmfaaDiskLoop
import Derived.Test.YtkcehoejcklmfaaDiskSame2
namespace Go.Proofs.Ytkcehoejcklmfaa.L
open Go.RowKit O D K

theorem openD_eq {s : St} {rows : List (List UInt8)} {g : Nat} (hs : scanS s = (rows, (catF g rows).length)) (hC : s.log.take (catF g rows).length = catF g rows) (hok : s.ok) :
    openD s = ⟨s.room, catF g rows, [], s.n0, s.n1, s.n0, s.n1⟩ := by
  have hle : (catF g rows).length ≤ s.log.length := by
    have := congrArg List.length hC
    rw [List.length_take] at this
    omega
  unfold openD
  rw [hs]
  dsimp only
  split
  · rename_i hlt
    have hf : ¬ (s.clear.room < s.clear.log.length + (catF g rows).length) := by
      have h1 := hok.2
      have h2 : s.clear.room = s.room := rfl
      have h3 : s.clear.log.length = 0 := by simp [St.clear, St.log]
      omega
    rw [hC]
    unfold St.app
    rw [if_neg hf]
    simp [St.sync, St.clear, St.log]
  · rename_i hlt
    have hlog : s.log = catF g rows := by
      rw [← hC, List.take_of_length_le (by omega)]
    simp [St.sync, hlog]
/-- Behind a crash: what Open sees; and that it sees the same again. -/
structure Seen (s : St) (im : List UInt8) (rows : List (List UInt8)) : Prop where
  scan : (scanS s).1 = rows
  im : optS (newTo s 2) = im
  n0 : s.n0.length ≤ 320
  n1 : s.n1.length ≤ 320
theorem seen_again {s : St} {rows : List (List UInt8)} {g : Nat} {im : List UInt8} (hs : scanS s = (rows, (catF g rows).length)) (hC : s.log.take (catF g rows).length = catF g rows) (hok : s.ok) (hg : genS s = g) (hg2 : g < 4294967296) (him : optS (newTo s 2) = im)
    (h0 : s.n0.length ≤ 320) (h1 : s.n1.length ≤ 320) : Seen s im rows ∧ Seen (openD s) im rows ∧ openD (openD s) = openD s := by
  have e := openD_eq hs hC hok
  have hlog : (openD s).log = catF g rows := by rw [e]; simp [St.log]
  have hn : newTo (openD s) 2 = newTo s 2 := by rw [newTo_two, newTo_two, e]
  have hgen : genS (openD s) = g := by unfold genS; rw [hn]; exact hg
  have hle : (catF g rows).length ≤ s.log.length := by
    have := congrArg List.length hC
    rw [List.length_take] at this
    omega
  have hlen : (catF g rows).length < 1000000000 := by have := hok.1; have := hok.2; omega
  obtain ⟨j, hj, hsc, hmin⟩ := scan_cut g hg2 rows (catF g rows) [] (catF g rows).length (by simp) hlen (by simp)
  have hjr : j = rows.length := by
    have := hmin rows.length (Nat.le_refl _) (by simp)
    omega
  subst hjr
  have hscan : scanS (openD s) = (rows, (catF g rows).length) := by
    unfold scanS
    rw [hlog, hgen]
    simpa using hsc
  have hok2 : (openD s).ok := by
    refine ⟨by rw [e]; exact hok.1, ?_⟩
    rw [hlog, e]
    have := hok.2
    simp only
    omega
  have hC2 : (openD s).log.take (catF g rows).length = catF g rows := by rw [hlog, List.take_length]
  refine ⟨⟨by rw [hs], him, h0, h1⟩, ⟨by rw [hscan], by rw [hn]; exact him, by rw [e]; exact h0, by rw [e]; exact h1⟩, ?_⟩
  rw [openD_eq hscan hC2 hok2]
  conv => rhs; rw [e]
  rw [e]
theorem catF_app (g : Nat) (a b : List (List UInt8)) : catF g (a ++ b) = catF g a ++ catF g b := by simp [catF]
theorem CrI.after {x : LS} {im : List UInt8} {added : List (List UInt8)} {sure k : Nat} (h : CrI x im added sure k) (hk : k ≤ 1000) (hok : x.s.ok) (keep : Int) (hok2 : (x.s.crash keep).ok) :
    ∃ j, sure ≤ j ∧ j ≤ added.length ∧ Seen (x.s.crash keep) im (added.take j) ∧ Seen (openD (x.s.crash keep)) im (added.take j) ∧ openD (openD (x.s.crash keep)) = openD (x.s.crash keep) := by
  have hl : (catF x.gen added).length ≤ 16384 := by have h1 := hok.2; rw [h.log, h.room] at h1; exact h1
  obtain ⟨j, h1, h2, h3, h4, h5⟩ := h.crash hk hl keep
  have hlog : (x.s.crash keep).log = (catF x.gen added).take (x.s.sure.length + keep.toNat) := by
    rw [← h.log]
    simp [St.crash, St.log, List.take_append]
    rw [List.take_of_length_le (by omega)]
  have hgk := h.gen
  have hle : (catF x.gen (added.take j)).length ≤ (x.s.crash keep).log.length := by
    have := scan_le (l := (x.s.crash keep).log) (g := genS (x.s.crash keep)) (by have := hok2.1; have := hok2.2; omega) ((x.s.crash keep).log.length + 1 - 0) 0 (Nat.zero_le _)
    have e : scanF ((x.s.crash keep).log.length + 1 - 0) (x.s.crash keep).log (genS (x.s.crash keep)) 0 = scanS (x.s.crash keep) := rfl
    rw [e, h3] at this
    exact this
  have hC : (x.s.crash keep).log.take (catF x.gen (added.take j)).length = catF x.gen (added.take j) := by
    rw [hlog] at hle ⊢
    rw [List.length_take] at hle
    rw [List.take_take, Nat.min_eq_left (by omega)]
    conv => lhs; rw [← List.take_append_drop j added, catF_app]
    rw [List.take_append_of_le_length (by simp)]
    simp
  have hh := seen_again h3 hC hok2 h5 (by omega) h4 (by simp only [St.crash]; rw [h.n0]; exact h.l0) (by simp only [St.crash]; rw [h.n1]; exact h.l1)
  exact ⟨j, h1, h2, hh⟩
end Go.Proofs.Ytkcehoejcklmfaa.L
namespace Go.Proofs.Ytkcehoejcklmfaa.walCrashes
open Go.RowKit O D K L

theorem nb (w : World) (o : Obj) : Below w.heap.size w (w.alloc o) := (Below.refl _ _).alloc (Nat.le_refl _) _
theorem clone_beside {w w' : World} {base base' g G : Nat} {r r' : Option Nat} {s s' : St} (h : DiskAt w base g r s) (hG : DiskAt w base' G r' s') (ho : Only G none w w') (h1 : g ≠ G) (h3 : ∀ k, r = some k → k ≠ G) : DiskAt w' base g r s := by
  obtain ⟨l, n0, n1, s0, s1, hl, rfl⟩ := h
  refine ⟨l, n0, n1, s0, s1, hl.beside ho h1 (by simp) (fun k hk => ⟨h3 k hk, by simp⟩) (fun x hx hp b hb => ⟨?_, by simp⟩), rfl⟩
  have hR : ∃ y, Rd w w.heap.size 1 x.a x.n (bv y) := by
    rcases hx with rfl | rfl | rfl | rfl
    · exact ⟨_, hl.rn0.1⟩
    · exact ⟨_, hl.rn1.1⟩
    · exact ⟨_, hl.rs0.1⟩
    · exact ⟨_, hl.rs1.1⟩
  obtain ⟨y, hy⟩ := hR
  exact Rd.apart hy (diskNoB hG) hp hb
theorem len40 {x : LS} {im : List UInt8} {added : List (List UInt8)} {sure k : Nat} (h : CrI x im added sure k) : sure ≤ added.length := h.le
set_option maxRecDepth 100000 in
set_option maxHeartbeats 8000000 in
theorem walk (v : Value) (ops : List D.Op) (keep : Int) (w : World) (h1 : IsOps w w.heap.size v ops) (_hx0 : (Lit.int .i64 keep).wf = true) :
    Calls Try.prog 12 #[v, .int .i64 keep] w fun e w' => e = .returned (.bool true) ∧ Below w.heap.size w w' := by
  have Hh1 := Lib.hid h1; clear h1
  go_enter Try.func12, Try.ntmps12
  go_wp2_with fail
  refine (new_any 16384 w).mono ?_; rintro e w1 ⟨rfl, b1, d1⟩
  have hs1 := b1.size
  have Hb1 := Lib.hid b1; clear b1
  have Hd1 := Lib.hid d1; clear d1
  go_wp2_with fail
  refine (lopen_any Hd1.out (by simp [newS]) (by simp [newS]) hs1).mono ?_; rintro e w2 ⟨A5, n5, c5, A6, n6, c6, xs6, rfl, -, -, -, -, o2, r2, L2, nx2⟩
  rw [cr_open] at L2
  have B2 : Below w.heap.size w w2 := Hb1.out.trans (o2.below (Nat.le_refl _) (by simp) hs1)
  have hs2 := B2.size
  have hlg2 := lt_of_block L2.blk
  have hdl := L2.disk.lt
  have Ho2 := Lib.hid o2; clear o2
  have Hnx2 := Lib.hid nx2; clear nx2
  have HL2 := Lib.hid L2; clear L2
  have HB2 := Lib.hid B2; clear B2
  go_wp2_with fail
  refine (row_any v ops w2 (Hh1.out.keep HB2.out) hs2).mono ?_; rintro e w5 ⟨A7, n7, c7, xs, rfl, own, reps, b5⟩
  have X5 := RdX.fresh own hdl.2.1 hlg2 (fun k hk => (hdl.2.2 k hk).2)
  have L0 : LoopL w w.heap.size w.heap.size w1.heap.size r2 A7 n7 xs ⟨newS 16384, 0, 0⟩ w5 := ⟨HL2.out.below b5, X5, HB2.out.trans (b5.mono hs2), Nat.le_trans hs2 b5.size⟩
  have hreps := reps.imp (OpC.back HB2.out)
  have hln := L0.row.1.len_of OpC.size hreps (by omega)
  have hsmall := cutL_small ops
  have hn40 : n7 ≤ 40 := by rw [← hln]; simp [cutL]; omega
  have hfi := ops_first hreps
  generalize cutL ops = l' at *
  clear reps own b5 X5
  subst hln
  have HFI := Lib.hid hfi
  have HC0 := Lib.hid cr_start
  clear hfi
  have Hhreps := Lib.hid hreps; clear hreps
  have HL0 := Lib.hid L0; clear L0
  have Hhsmall := Lib.hid hsmall; clear hsmall
  go_wp2_with fail
  go_loopw [10, 11, 12, 35] (fun v10 v11 v12 i wr => ∃ (k : Nat) (r : Option Nat) (x : LS) (im : List UInt8) (added : List (List UInt8)) (sure : Nat) (B : Option Addr) (q d : Nat), k ≤ l'.length ∧ q ≤ k ∧ i = .int .i64 (k : Int) ∧ v10 = .string ⟨im.toArray⟩ ∧ v11 = .slice B q d ∧ v12 = .int .i64 (sure : Int) ∧ Hid (LoopL w w.heap.size w.heap.size w1.heap.size r A7 l'.length xs x wr) ∧ Hid (TxRow wr w.heap.size B q d added) ∧ Hid (CrI x im added sure k)) (fun _ _ _ i _ => l'.length - (intOf i).toNat)
  case atStart => exact ⟨0, r2, _, [], [], 0, none, 0, 0, Nat.zero_le _, Nat.le_refl _, rfl, rfl, rfl, rfl, HL0, Lib.hid (TxRow.nil _ _), HC0⟩
  case round =>
    obtain ⟨k, r, x, im, added, sure, B, q, d, hk, hqk, rfl, rfl, rfl, rfl, HL, HT, HC⟩ := hrel
    have L := HL.out
    by_cases hlt : k < l'.length
    · obtain ⟨b', off, vs, rfl, hbl, ⟨A3, m3, c3, rfl, hr3, hm3, hc3⟩, hc⟩ := L.row.1.elem OpC.size Hhreps.out hlt (by omega)
      have t0 := hc 0 (by omega)
      have t1 := hc 1 (by omega)
      have t2 := hc 2 (by omega)
      simp at t0 t1 t2
      have hob := Hhsmall.out _ (List.getElem_mem hlt)
      have hm3' : m3 ≤ 200 := by have := hr3.1; simp at this; omega
      generalize l'[k] = o at *
      have ba : Below wr.heap.size wr (wr.alloc (.cells #[.int .u64 (o.kind : Int), .int .i64 o.n, .slice A3 m3 c3] 77)) := (Below.refl _ _).alloc (Nat.le_refl _) _
      have hX := heap_alloc_new wr (.cells #[.int .u64 (o.kind : Int), .int .i64 o.n, .slice A3 m3 c3] 77)
      have La := L.below ba
      have hrB := (hr3.below La.bel).more La.le
      have HBA := Lib.hid ba
      have hrlt : ∀ k, r = some k → k < wr.heap.size := fun k hk => (L.log.disk.lt.2.2 k hk).2
      have hglt := L.log.disk.lt.2.1
      have hllt := lt_of_block L.log.blk
      clear ba
      by_cases hkd : o.kind % 4 = 0
      · have u0 : ((o.kind : Int) % 4 == 0) = true := by simp; omega
        have hle := L.le
        have hcr := HC.out.add (b := o.b)
        have HL := Lib.hid L; clear L
        have Hhr3 := Lib.hid hr3; clear hr3
        have Hhc := Lib.hid hc; clear hc
        have HLa := Lib.hid La; clear La
        have HhrB := Lib.hid hrB; clear hrB
        have Hhle := Lib.hid hle; clear hle
        have Hhob := Lib.hid hob; clear hob
        have HhX := Lib.hid hX; clear hX
        have Hhrlt := Lib.hid hrlt; clear hrlt
        have Hhglt := Lib.hid hglt; clear hglt
        have Hhllt := Lib.hid hllt; clear hllt
        have Hhcr := Lib.hid hcr; clear hcr
        go_wp2_with fail
        refine (ladd_any A3 m3 c3 o.b HLa.out.log HhrB.out (by omega) HLa.out.le).mono ?_; rintro e w6 ⟨rfl, t6⟩
        obtain ⟨r6, L6⟩ := HLa.out.turned t6
        have T6 := (HT.out.below HBA.out).turned HLa.out.log t6.1
        have X6 := (t6.1.block wr.heap.size (by simp) (by have := Hhglt.out; omega) (by have := Hhllt.out; omega) (fun e => by have := Hhrlt.out _ e; omega)).trans HhX.out
        have y2 : w6.cell? ⟨wr.heap.size, 2, none⟩ = some (.slice A3 m3 c3) := by rw [Lib.cell_of_heap X6]; rfl
        have hr6 := (Hhr3.out.below L6.bel).more L6.le
        have q6 := K.strq (c := c3) hr6
        rcases Hhcr.out with ⟨e0, c0⟩ | ⟨e0, c0⟩
        · rw [e0]
          have HC6 := Lib.hid c0
          have BX := nb w6 (.cells #[.string ⟨o.b.toArray⟩] 9)
          have L7 := L6.below BX
          have T7 := T6.below BX
          have u7 : (w6.alloc (.cells #[.string ⟨o.b.toArray⟩] 9)).cell? ⟨w6.heap.size, 0, none⟩ = some (.string ⟨o.b.toArray⟩) := by rw [Lib.cell_of_heap (heap_alloc_new w6 (.cells #[.string ⟨o.b.toArray⟩] 9))]; rfl
          have htl := T7.len
          have hle7 := L7.le
          have HU7 := Lib.hid u7
          have HB7 := Lib.hid BX
          have HL7 := Lib.hid L7; clear L7
          have HT7 := Lib.hid T7; clear T7
          have Hhle7 := Lib.hid hle7; clear hle7
          clear L6 T6 X6 t6 hr6 e0 c0 u7 BX
          go_wp2_with (at_builtin; refine wpList_all rfl (.tmp 58) (.tmp 62) txE rfl w.heap.size rfl HT7.out.own HT7.out.allOf (fun v hv => by simp [Value.cells] at hv; subst hv; exact ⟨_, rfl⟩) rfl HU7.out rfl ⟨_, rfl⟩ (by unfold maxLen; omega) (by omega) Hhle7.out ?_; intro B8 d8 w8 o8 g8 a8; have HT8 := Lib.hid (TxRow.app o8 a8); have HL8 := Lib.hid (HL7.out.keepT HFI.out HT7.out (by rw [← own_blk B q d]; exact g8)); clear o8 g8 a8)
          go_roundw
          case rel => exact ⟨k + 1, r6, _, im, added ++ [o.b], sure, B8, q + 1, d8, by omega, by omega, by go_num, rfl, rfl, rfl, HL8, HT8, HC6⟩
          case measure => simp [intOf]; omega
        · rw [e0]
          have HC6 := Lib.hid c0
          have HL6 := Lib.hid L6; clear L6
          have HT6 := Lib.hid T6; clear T6
          clear X6 y2 q6 t6 hr6 e0 c0
          go_wp2_with fail
          go_roundw
          case rel => exact ⟨k + 1, r6, _, im, added, sure, B, q, d, by omega, by omega, by go_num, rfl, rfl, rfl, HL6, HT6, HC6⟩
          case measure => simp [intOf]; omega
      · have u0 : ((o.kind : Int) % 4 == 0) = false := by simp; omega
        by_cases hkd1 : o.kind % 4 = 1
        · have u1 : ((o.kind : Int) % 4 == 1) = true := by simp; omega
          have hle := L.le
          have hcr := HC.out.add (b := o.b)
          have HL := Lib.hid L; clear L
          have Hhr3 := Lib.hid hr3; clear hr3
          have Hhc := Lib.hid hc; clear hc
          have HLa := Lib.hid La; clear La
          have HhrB := Lib.hid hrB; clear hrB
          have Hhle := Lib.hid hle; clear hle
          have Hhob := Lib.hid hob; clear hob
          have HhX := Lib.hid hX; clear hX
          have Hhrlt := Lib.hid hrlt; clear hrlt
          have Hhglt := Lib.hid hglt; clear hglt
          have Hhllt := Lib.hid hllt; clear hllt
          have Hhcr := Lib.hid hcr; clear hcr
          go_wp2_with fail
          refine (ladd_any A3 m3 c3 o.b HLa.out.log HhrB.out (by omega) HLa.out.le).mono ?_; rintro e w6 ⟨rfl, t6⟩
          obtain ⟨r6, L6⟩ := HLa.out.turned t6
          have T6 := (HT.out.below HBA.out).turned HLa.out.log t6.1
          have X6 := (t6.1.block wr.heap.size (by simp) (by have := Hhglt.out; omega) (by have := Hhllt.out; omega) (fun e => by have := Hhrlt.out _ e; omega)).trans HhX.out
          have y2 : w6.cell? ⟨wr.heap.size, 2, none⟩ = some (.slice A3 m3 c3) := by rw [Lib.cell_of_heap X6]; rfl
          have hr6 := (Hhr3.out.below L6.bel).more L6.le
          have q6 := K.strq (c := c3) hr6
          rcases Hhcr.out with ⟨e0, c0⟩ | ⟨e0, c0⟩
          · rw [e0]
            have HC6 := Lib.hid c0
            have BX := nb w6 (.cells #[.string ⟨o.b.toArray⟩] 9)
            have L7 := L6.below BX
            have T7 := T6.below BX
            have u7 : (w6.alloc (.cells #[.string ⟨o.b.toArray⟩] 9)).cell? ⟨w6.heap.size, 0, none⟩ = some (.string ⟨o.b.toArray⟩) := by rw [Lib.cell_of_heap (heap_alloc_new w6 (.cells #[.string ⟨o.b.toArray⟩] 9))]; rfl
            have htl := T7.len
            have hle7 := L7.le
            have HU7 := Lib.hid u7
            have HB7 := Lib.hid BX
            have HL7 := Lib.hid L7; clear L7
            have HT7 := Lib.hid T7; clear T7
            have Hhle7 := Lib.hid hle7; clear hle7
            clear L6 T6 X6 t6 hr6 e0 c0 u7 BX
            go_wp2_with (at_builtin; refine wpList_all rfl (.tmp 58) (.tmp 62) txE rfl w.heap.size rfl HT7.out.own HT7.out.allOf (fun v hv => by simp [Value.cells] at hv; subst hv; exact ⟨_, rfl⟩) rfl HU7.out rfl ⟨_, rfl⟩ (by unfold maxLen; omega) (by omega) Hhle7.out ?_; intro B8 d8 w8 o8 g8 a8; have HT8 := Lib.hid (TxRow.app o8 a8); have HL8 := Lib.hid (HL7.out.keepT HFI.out HT7.out (by rw [← own_blk B q d]; exact g8)); clear o8 g8 a8)
            go_roundw
            case rel => exact ⟨k + 1, r6, _, im, added ++ [o.b], sure, B8, q + 1, d8, by omega, by omega, by go_num, rfl, rfl, rfl, HL8, HT8, HC6⟩
            case measure => simp [intOf]; omega
          · rw [e0]
            have HC6 := Lib.hid c0
            have HL6 := Lib.hid L6; clear L6
            have HT6 := Lib.hid T6; clear T6
            clear X6 y2 q6 t6 hr6 e0 c0
            go_wp2_with fail
            go_roundw
            case rel => exact ⟨k + 1, r6, _, im, added, sure, B, q, d, by omega, by omega, by go_num, rfl, rfl, rfl, HL6, HT6, HC6⟩
            case measure => simp [intOf]; omega
        · have u1 : ((o.kind : Int) % 4 == 1) = false := by simp; omega
          by_cases hkd2 : o.kind % 4 = 2
          · have u2 : ((o.kind : Int) % 4 == 2) = true := by simp; omega
            have hle := L.le
            have hcs := HC.out.sync
            have hql := HT.out.len
            have HL := Lib.hid L; clear L
            have Hhr3 := Lib.hid hr3; clear hr3
            have Hhc := Lib.hid hc; clear hc
            have HLa := Lib.hid La; clear La
            have HhrB := Lib.hid hrB; clear hrB
            have Hhle := Lib.hid hle; clear hle
            have Hhob := Lib.hid hob; clear hob
            have HhX := Lib.hid hX; clear hX
            have Hhrlt := Lib.hid hrlt; clear hrlt
            have Hhglt := Lib.hid hglt; clear hglt
            have Hhllt := Lib.hid hllt; clear hllt
            have Hhcs := Lib.hid hcs; clear hcs
            have Hhql := Lib.hid hql; clear hql
            go_wp2_with fail
            refine (lsync_any HLa.out.log).mono ?_; rintro e w6 ⟨rfl, t6⟩
            obtain ⟨r6, L6⟩ := HLa.out.turned t6
            have T6 := (HT.out.below HBA.out).turned HLa.out.log t6.1
            have HL6 := Lib.hid L6; clear L6
            have HT6 := Lib.hid T6; clear T6
            clear t6
            go_wp2_with fail
            go_roundw
            case rel => exact ⟨k + 1, r6, _, im, added, added.length, B, q, d, by omega, by omega, by go_num, rfl, rfl, by rw [Hhql.out], HL6, HT6, Hhcs⟩
            case measure => simp [intOf]; omega
          · have u2 : ((o.kind : Int) % 4 == 2) = false := by simp; omega
            have hle := L.le
            have hck := HC.out.check (b := o.b) (by omega) (by have := hob; omega)
            have HL := Lib.hid L; clear L
            have Hhr3 := Lib.hid hr3; clear hr3
            have Hhc := Lib.hid hc; clear hc
            have HLa := Lib.hid La; clear La
            have HhrB := Lib.hid hrB; clear hrB
            have Hhle := Lib.hid hle; clear hle
            have Hhob := Lib.hid hob; clear hob
            have HhX := Lib.hid hX; clear hX
            have Hhrlt := Lib.hid hrlt; clear hrlt
            have Hhglt := Lib.hid hglt; clear hglt
            have Hhllt := Lib.hid hllt; clear hllt
            have Hhck := Lib.hid hck; clear hck
            go_wp2_with fail
            refine (lcheck_any A3 m3 c3 o.b HLa.out.log HhrB.out (by omega) HLa.out.le).mono ?_; rintro e w6 ⟨rfl, t6⟩
            obtain ⟨r6, L6⟩ := HLa.out.turned t6
            have X6 := (t6.1.block wr.heap.size (by simp) (by have := Hhglt.out; omega) (by have := Hhllt.out; omega) (fun e => by have := Hhrlt.out _ e; omega)).trans HhX.out
            have y2 : w6.cell? ⟨wr.heap.size, 2, none⟩ = some (.slice A3 m3 c3) := by rw [Lib.cell_of_heap X6]; rfl
            have hr6 := (Hhr3.out.below L6.bel).more L6.le
            have q6 := K.strq (c := c3) hr6
            rw [Hhck.out.1]
            have HC6 := Lib.hid Hhck.out.2
            have HL6 := Lib.hid L6; clear L6
            clear X6 t6 hr6
            go_wp2_with fail
            go_roundw
            case rel => exact ⟨k + 1, r6, _, o.b, [], 0, none, 0, 0, by omega, by omega, by go_num, rfl, rfl, rfl, HL6, Lib.hid (TxRow.nil _ _), HC6⟩
            case measure => simp [intOf]; omega
    · have hkl : k ≤ 1000 := by omega
      have hkq : k = l'.length := by omega
      have hle := L.le
      have hlo := L.log.disk.lt
      have HL := Lib.hid L; clear L
      clear HL
      go_wp2_with fail
      refine (crash_any HL.out.log.disk keep).mono ?_; rintro e w6 ⟨rfl, t6⟩
      obtain ⟨o6, r6, d6, nx6⟩ := t6
      have hok6 : (x.s.crash keep).ok := d6.ok
      have hkept := HC.out.kept
      have hlok : LS.ok { x with s := x.s.crash keep } := ⟨hok6, HL.out.log.ok.2.1, by rw [hkept]; have := hok6.2; simpa using this⟩
      have tL := HL.out.log.turned ⟨o6, r6, d6, nx6⟩ hlok
      have T6 := HT.out.turned HL.out.log tL.1
      have B6 : Below w.heap.size w w6 := HL.out.bel.trans (o6.below hlo.1 (fun k hk => (hlo.2.2 k hk).1) hle)
      have hs6 := B6.size
      obtain ⟨j, hj1, hj2, S1, S2, ee⟩ := HC.out.after hkl HL.out.log.ok.1 keep hok6
      have hql := HT.out.len
      have hqd : q ≤ d := by
        rcases HT.out.own.2 with ⟨hv, h0⟩ | ⟨g', cap, cur, hv, _, _, hnc, _⟩
        · rw [h0]; exact Nat.zero_le _
        · injection hv with _ _ hc; rw [hc]; exact hnc
      have Hd6 := Lib.hid d6; clear d6
      have HT6 := Lib.hid T6; clear T6
      have HB6 := Lib.hid B6; clear B6
      have HS1 := Lib.hid S1; clear S1
      have HS2 := Lib.hid S2; clear S2
      have Hee := Lib.hid ee; clear ee
      clear tL hlok hok6 o6 nx6 HL HC HT
      go_wp2_with fail
      refine (lopen_any Hd6.out (by have := HS1.out.n0; omega) (by have := HS1.out.n1; omega) hs6).mono ?_; rintro e w7 ⟨A8, n8, c8, A9, n9, c9, xs9, rfl, rd8, hnc8, own9, reps9, o7, r7, L7, nx7⟩
      rw [HS1.out.im] at rd8
      rw [HS1.out.scan] at reps9
      have hn9 := (Rd.of_own own9).len_of SlU.size reps9 (by omega)
      obtain rfl : n9 = j := by rw [← hn9]; simp; omega
      have T7 := HT6.out.only Hd6.out o7
      have B7 : Below w.heap.size w w7 := HB6.out.trans (o7.below hlo.1 (by simp) hs6)
      have d7 : DiskAt w7 w.heap.size w.heap.size r7 (openD (x.s.crash keep)) := L7.disk
      have q8 := K.strq (c := c8) rd8
      have rt7 := T7.take (j := n9) (by omega)
      have j1 : decide ((n9 : Int) < (sure : Int)) = false := by simp; omega
      have j2 : decide ((n9 : Int) > (q : Int)) = false := by simp; omega
      have j3 : (n9 : Int) ≤ (d : Int) := by omega
      have j4 : n9 ≤ d := by omega
      have rr9 := Rd.of_own own9
      have HT7 := Lib.hid T7; clear T7
      have HB7 := Lib.hid B7; clear B7
      have Hd7 := Lib.hid d7; clear d7
      have Hrt7 := Lib.hid rt7; clear rt7
      have Hrr9 := Lib.hid rr9; clear rr9
      have Hreps9 := Lib.hid reps9; clear reps9
      clear rd8 hnc8 own9 o7 L7 nx7 hn9 Hd6 HT6
      go_wp2_with fail
      refine (rsame_any _ _ _ _ _ _ (added.take n9) xs9 _ Hrr9.out Hreps9.out Hrt7.out (by omega)).mono ?_; rintro e w8 ⟨rfl, b8⟩
      have d8 := Hd7.out.below b8
      have T8 := HT7.out.below b8
      have B8 := HB7.out.trans (b8.mono (HB7.out.size))
      have hlt8 := d8.lt
      clear j1 j2 q8
      have Hd8 := Lib.hid d8; clear d8
      have HT8 := Lib.hid T8; clear T8
      have HB8 := Lib.hid B8; clear B8
      clear b8 Hrt7 Hrr9 Hreps9 Hd7 HT7
      go_wp2_with fail
      refine (clone_any Hd8.out).mono ?_; rintro e w9 ⟨rc, rfl, dc, b9⟩
      have d9 := Hd8.out.below b9
      have T9 := HT8.out.below b9
      have B9 := HB8.out.trans (b9.mono (HB8.out.size))
      have hs9 := B9.size
      have hltc := dc.lt
      have Hdc := Lib.hid dc; clear dc
      have Hd9 := Lib.hid d9; clear d9
      have HT9 := Lib.hid T9; clear T9
      have HB9 := Lib.hid B9; clear B9
      clear b9 Hd8 HT8
      go_wp2_with fail
      refine (lopen_any Hd9.out (by have := HS2.out.n0; omega) (by have := HS2.out.n1; omega) hs9).mono ?_; rintro e w10 ⟨A11, n11, c11, A12, n12, c12, xs12, rfl, rd11, hnc11, own12, reps12, o10, r10, L10, nx10⟩
      rw [HS2.out.im] at rd11
      rw [HS2.out.scan] at reps12
      have T10 := HT9.out.only Hd9.out o10
      have B10 : Below w.heap.size w w10 := HB9.out.trans (o10.below hlo.1 (by simp) hs9)
      have d10 : DiskAt w10 w.heap.size w.heap.size r10 (openD (x.s.crash keep)) := by
        have := L10.disk
        have e10 : (openS (openD (x.s.crash keep))).s = openD (x.s.crash keep) := Hee.out
        rw [e10] at this
        exact this
      have dc10 := clone_beside Hdc.out Hd9.out o10 (by have := hlt8.2.1; omega) (fun k hk => by have := (hltc.2.2 k hk).1; have := hlt8.2.1; omega)
      have q11 := K.strq (c := c11) rd11
      have rt10 := T10.take (j := n9) (by omega)
      have rr12 := Rd.of_own own12
      have HT10 := Lib.hid T10; clear T10
      have HB10 := Lib.hid B10; clear B10
      have Hd10 := Lib.hid d10; clear d10
      have Hdc10 := Lib.hid dc10; clear dc10
      have Hrt10 := Lib.hid rt10; clear rt10
      have Hrr12 := Lib.hid rr12; clear rr12
      have Hreps12 := Lib.hid reps12; clear reps12
      clear rd11 hnc11 own12 o10 L10 nx10 Hd9 HT9 Hdc
      go_wp2_with fail
      refine (rsame_any _ _ _ _ _ _ (added.take n9) xs12 _ Hrr12.out Hreps12.out Hrt10.out (by have := Hrr12.out.len_of SlU.size Hreps12.out (by omega); simp at this; omega)).mono ?_; rintro e w11 ⟨rfl, b11⟩
      have dd11 := Hd10.out.below b11
      have dc11 := Hdc10.out.below b11
      have B11 := HB10.out.trans (b11.mono (HB10.out.size))
      have Hdd11 := Lib.hid dd11; clear dd11
      have Hdc11 := Lib.hid dc11; clear dc11
      have HB11 := Lib.hid B11; clear B11
      clear b11 q11
      go_wp2_with fail
      refine (same_any Hdd11.out Hdc11.out).mono ?_; rintro e w12 ⟨rfl, b12⟩
      have B12 := HB11.out.trans (b12.mono (HB11.out.size))
      have HB12 := Lib.hid B12; clear B12
      clear b12
      go_wp2_with fail
      refine (L.lives_any _).mono ?_; rintro e w13 ⟨rfl, b13⟩
      go_wp2_with fail
      go_ret
      exact ⟨rfl, HB12.out.trans (b13.mono HB12.out.size)⟩
end Go.Proofs.Ytkcehoejcklmfaa.walCrashes
