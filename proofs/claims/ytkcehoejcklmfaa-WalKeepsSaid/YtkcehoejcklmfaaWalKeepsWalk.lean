/- WalKeeps' walk. -/
import Derived.Test.YtkcehoejcklmfaaWalNil
import Derived.Test.YtkcehoejcklmfaaWalOps
import Derived.Test.YtkcehoejcklmfaaWalGensWalk
import Derived.Test.YtkcehoejcklmfaaDiskLoop
namespace Go.Proofs.Ytkcehoejcklmfaa.walKeeps
open Go.RowKit O D K L

theorem startR (rm : Nat) (h : rm ≤ 4096) : openS (newS (rm : Int)) = ⟨newS (rm : Int), 0, 0⟩ ∧ (newS (rm : Int)).room = rm := by
  have hn : newTo (newS (rm : Int)) 2 = none := by simp [newTo, slotN, newS, walGens.image_nil, newer]
  have hs : (newS (rm : Int)).sync = newS (rm : Int) := by simp [newS, St.sync, St.log]
  have hl : (newS (rm : Int)).log = [] := by simp [newS, St.log]
  refine ⟨?_, by simp [newS]; omega⟩
  unfold openS openD genS
  rw [hn, hl]
  simp [hs, optG]
theorem add_keeps (x : LS) (b : List UInt8) : (x.add b).1.gen = x.gen ∧ (x.add b).1.kept = x.kept := by unfold LS.add; split <;> exact ⟨rfl, rfl⟩

set_option maxRecDepth 100000 in
set_option maxHeartbeats 8000000 in
theorem walk (room : Int) (A : Option Addr) (n c : Nat) (l : List UInt8) (v : Value) (ops : List D.Op) (w : World) (_hx0 : (Lit.int .i64 room).wf = true) (h1 : IsB w A n c l) (h2 : IsOps w w.heap.size v ops) :
    Calls Try.prog 13 #[.int .i64 room, .slice A n c, v] w fun e w' => e = .returned (.bool true) ∧ Below w.heap.size w w' := by
  obtain ⟨hr1, hnc, hcm⟩ := h1
  unfold maxLen at hcm
  obtain ⟨y, hy⟩ : ∃ y : Nat, min n 200 = y := ⟨_, rfl⟩
  have ey : min (n : Int) 200 = (y : Int) := by omega
  have by1 : (y : Int) ≤ (c : Int) := by omega
  have hy2 : y ≤ 200 := by omega
  have hb := hr1.take_ 200
  rw [hy] at hb
  generalize l.take 200 = b at hb
  have lb : b.length = y := by have := hb.1; simp at this; omega
  obtain ⟨rm, hrm⟩ : ∃ rm : Nat, max 0 (min room 4096) = (rm : Int) := ⟨(max 0 (min room 4096)).toNat, by omega⟩
  have hrm2 : rm ≤ 4096 := by omega
  obtain ⟨st1, st2⟩ := startR rm hrm2
  have hcost := costN_len b 0 (by omega)
  rw [lb] at hcost
  have fb := walGens.frame_le (g := 0) (b := b) (by omega)
  obtain ⟨q, hq⟩ : ∃ q : Nat, (frameL 0 b).length = q := ⟨_, rfl⟩
  have hcz : (costN (y : Int) : Int) = (q : Int) := by omega
  have hq3 : q ≤ 320 := by omega
  clear hy hr1 fb hcost
  have Hhb := Lib.hid hb; clear hb
  have Hlb := Lib.hid lb; clear lb
  have Hst1 := Lib.hid st1; clear st1
  have Hst2 := Lib.hid st2; clear st2
  have Hh2 := Lib.hid h2; clear h2
  have Hhq := Lib.hid hq; clear hq
  have Hhcz := Lib.hid hcz; clear hcz
  go_enter Try.func13, Try.ntmps13
  go_wp2_with fail
  refine (new_any (rm : Int) w).mono ?_; rintro e w1 ⟨rfl, b1, d1⟩
  have hs1 := b1.size
  have Hb1 := Lib.hid b1; clear b1
  have Hd1 := Lib.hid d1; clear d1
  go_wp2_with fail
  refine (lopen_any Hd1.out (by simp [newS]) (by simp [newS]) hs1).mono ?_; rintro e w2 ⟨A5, n5, c5, A6, n6, c6, xs6, rfl, -, -, -, -, o2, r2, L2, nx2⟩
  rw [Hst1.out] at L2
  have B2 : Below w.heap.size w w2 := Hb1.out.trans (o2.below (Nat.le_refl _) (by simp) hs1)
  have hs2 := B2.size
  have hfree : LS.free ⟨newS (rm : Int), 0, 0⟩ = rm := by unfold LS.free; rw [Hst2.out]; simp [newS, St.log]
  have Ho2 := Lib.hid o2; clear o2
  have Hnx2 := Lib.hid nx2; clear nx2
  have HL2 := Lib.hid L2; clear L2
  have HB2 := Lib.hid B2; clear B2
  go_wp2_with fail
  refine (cost_any (y : Int) _).mono ?_; rintro e w2' ⟨rfl, rfl⟩
  rw [Hhcz.out]
  go_wp2_with fail
  refine (lkeep_any (q : Int) HL2.out).mono ?_; rintro e w3 ⟨rfl, t3⟩
  have hK : LS.keep ⟨newS (rm : Int), 0, 0⟩ (q : Int) = if rm < q then (⟨newS (rm : Int), 0, 0⟩, 5) else (⟨newS (rm : Int), 0, q⟩, 0) := by
    unfold LS.keep
    rw [if_neg (by omega), hfree]
    by_cases hc : rm < q
    · rw [if_pos (by omega), if_pos hc]
    · rw [if_neg (by omega), if_neg hc]; simp
  rw [hK] at t3 ⊢
  clear hK
  by_cases hsm : rm < q
  · rw [if_pos hsm] at t3 ⊢
    obtain ⟨o3, r3, L3, nx3⟩ := t3
    have B3 : Below w.heap.size w w3 := by
      have := HL2.out.disk.lt
      exact HB2.out.trans (o3.below this.1 HL2.out.lgb (fun k hk => (this.2.2 k hk).1) hs2)
    have F := lfree_any L3
    rw [hfree] at F
    clear hfree
    have Ho3 := Lib.hid o3; clear o3
    have HL3 := Lib.hid L3; clear L3
    have Hnx3 := Lib.hid nx3; clear nx3
    have HB3 := Lib.hid B3; clear B3
    have HF := Lib.hid F; clear F
    go_wp2_with fail
    refine (HF.out).mono ?_; rintro e w4 ⟨rfl, b4⟩
    go_wp2_with fail
    refine (cost_any (y : Int) _).mono ?_; rintro e w4' ⟨rfl, rfl⟩
    rw [Hhcz.out]
    go_wp2_with fail
    refine (L.lives_any _).mono ?_; rintro e w5 ⟨rfl, b5⟩
    go_wp2_with fail
    go_ret
    exact ⟨rfl, HB3.out.trans ((bthen b4 b5).mono HB3.out.size)⟩
  · rw [if_neg hsm] at t3 ⊢
    obtain ⟨o3, r3, L3, nx3⟩ := t3
    have B3 : Below w.heap.size w w3 := by
      have := HL2.out.disk.lt
      exact HB2.out.trans (o3.below this.1 HL2.out.lgb (fun k hk => (this.2.2 k hk).1) hs2)
    have hs3 := B3.size
    clear hfree
    have hlg3 := lt_of_block L3.blk
    have hdl := L3.disk.lt
    have Ho3 := Lib.hid o3; clear o3
    have HL3 := Lib.hid L3; clear L3
    have Hnx3 := Lib.hid nx3; clear nx3
    have HB3 := Lib.hid B3; clear B3
    go_wp2_with fail
    refine (row_any v ops w3 (Hh2.out.keep HB3.out) hs3).mono ?_; rintro e w5 ⟨A7, n7, c7, xs, rfl, own, reps, b5⟩
    have X5 := RdX.fresh own hdl.2.1 hlg3 (fun k hk => (hdl.2.2 k hk).2)
    have L0 : LoopL w w.heap.size w.heap.size w1.heap.size r3 A7 n7 xs ⟨newS (rm : Int), 0, q⟩ w5 := ⟨HL3.out.below b5, X5, HB3.out.trans (b5.mono hs3), Nat.le_trans hs3 b5.size⟩
    have hreps := reps.imp (OpC.back HB3.out)
    have hln := L0.row.1.len_of OpC.size hreps (by omega)
    have hsmall := cutL_small ops
    have hn40 : n7 ≤ 40 := by rw [← hln]; simp [cutL]; omega
    generalize cutL ops = l' at *
    clear reps own b5 X5
    subst hln
    have Hhreps := Lib.hid hreps; clear hreps
    have HL0 := Lib.hid L0; clear L0
    have Hhsmall := Lib.hid hsmall; clear hsmall
    go_wp2_with fail
    go_loopw [49] (fun i wr => ∃ (k : Nat) (r : Option Nat) (x : LS), k ≤ l'.length ∧ i = .int .i64 k ∧ LoopL w w.heap.size w.heap.size w1.heap.size r A7 l'.length xs x wr ∧ x.gen = 0 ∧ x.kept = q) (fun i _ => l'.length - (intOf i).toNat)
    case atStart => exact ⟨0, r3, _, Nat.zero_le _, rfl, HL0.out, rfl, rfl⟩
    case round =>
      obtain ⟨k, r, x, hk, rfl, L, hgen, hkept⟩ := hrel
      by_cases hlt : k < l'.length
      · obtain ⟨b', off, vs, rfl, hbl, ⟨A3, m3, c3, rfl, hr3, hm3, hc3⟩, hc⟩ := L.row.1.elem OpC.size Hhreps.out hlt (by omega)
        have t0 := hc 0 (by omega)
        have t1 := hc 1 (by omega)
        have t2 := hc 2 (by omega)
        simp at t0 t1 t2
        have hob := Hhsmall.out _ (List.getElem_mem hlt)
        have hm3' : m3 ≤ 200 := by have := hr3.1; simp at this; omega
        generalize l'[k] = o at *
        have ba : Below wr.heap.size wr (wr.alloc (.cells #[.int .u64 (o.kind : Int), .int .i64 o.n, .slice A3 m3 c3] 77)) := (Below.refl _ _).alloc (Nat.le_refl _) _
        have La := L.below ba
        have hrB := (hr3.below La.bel).more La.le
        have hadd := add_keeps x o.b
        have hle := La.le
        have HL := Lib.hid L; clear L
        have Hhr3 := Lib.hid hr3; clear hr3
        have Hhc := Lib.hid hc; clear hc
        have HLa := Lib.hid La; clear La
        have HhrB := Lib.hid hrB; clear hrB
        have Hhadd := Lib.hid hadd; clear hadd
        have Hba := Lib.hid ba; clear ba
        have Hhgen := Lib.hid hgen; clear hgen
        have Hhkept := Lib.hid hkept; clear hkept
        have Hhle := Lib.hid hle; clear hle
        have Hhob := Lib.hid hob; clear hob
        by_cases hkd : o.kind % 3 = 2
        · have u0 : ((o.kind : Int) % 3 == 0) = false := by simp; omega
          have u1 : ((o.kind : Int) % 3 == 1) = false := by simp; omega
          go_wp2_with fail
          refine (lsync_any HLa.out.log).mono ?_; rintro e w6 ⟨rfl, t6⟩
          obtain ⟨r6, L6⟩ := HLa.out.turned t6
          have Ht6 := Lib.hid t6; clear t6
          have HL6 := Lib.hid L6; clear L6
          go_wp2_with fail
          go_roundw
          case rel => exact ⟨k + 1, r6, _, by omega, by go_num, HL6.out, Hhgen.out, Hhkept.out⟩
          case measure => simp [intOf]; omega
        · by_cases hkd0 : o.kind % 3 = 0
          · have u0 : ((o.kind : Int) % 3 == 0) = true := by simp; omega
            go_wp2_with fail
            refine (ladd_any A3 m3 c3 o.b HLa.out.log HhrB.out (by omega) Hhle.out).mono ?_; rintro e w6 ⟨rfl, t6⟩
            obtain ⟨r6, L6⟩ := HLa.out.turned t6
            have hg6 := Hhadd.out.1.trans Hhgen.out
            have hk6 := Hhadd.out.2.trans Hhkept.out
            generalize hxe : (x.add o.b).2 = er at *
            clear hxe
            have Ht6 := Lib.hid t6; clear t6
            have HL6 := Lib.hid L6; clear L6
            have Hhg6 := Lib.hid hg6; clear hg6
            have Hhk6 := Lib.hid hk6; clear hk6
            go_wp2_with fail
            go_roundw
            case rel => exact ⟨k + 1, r6, _, by omega, by go_num, HL6.out, Hhg6.out, Hhk6.out⟩
            case measure => simp [intOf]; omega
          · have u0 : ((o.kind : Int) % 3 == 0) = false := by simp; omega
            have u1 : ((o.kind : Int) % 3 == 1) = true := by simp; omega
            go_wp2_with fail
            refine (ladd_any A3 m3 c3 o.b HLa.out.log HhrB.out (by omega) Hhle.out).mono ?_; rintro e w6 ⟨rfl, t6⟩
            obtain ⟨r6, L6⟩ := HLa.out.turned t6
            have hg6 := Hhadd.out.1.trans Hhgen.out
            have hk6 := Hhadd.out.2.trans Hhkept.out
            generalize hxe : (x.add o.b).2 = er at *
            clear hxe
            have Ht6 := Lib.hid t6; clear t6
            have HL6 := Lib.hid L6; clear L6
            have Hhg6 := Lib.hid hg6; clear hg6
            have Hhk6 := Lib.hid hk6; clear hk6
            go_wp2_with fail
            go_roundw
            case rel => exact ⟨k + 1, r6, _, by omega, by go_num, HL6.out, Hhg6.out, Hhk6.out⟩
            case measure => simp [intOf]; omega
      · have hbB := (Hhb.out.below L.bel).more L.le
        have hE : x.addKept b = ({ x with s := (x.s.app (frameL x.gen b)).1, kept := 0 }, 0) := by
          have hq := Hhq.out
          unfold LS.addKept
          rw [hgen, hkept, hq, if_neg (by omega)]
          simp
        have hle := L.le
        have HL := Lib.hid L; clear L
        have HhbB := Lib.hid hbB; clear hbB
        have HhE := Lib.hid hE; clear hE
        have Hhgen := Lib.hid hgen; clear hgen
        have Hhkept := Lib.hid hkept; clear hkept
        go_wp2_with fail
        refine (nlet 1 _).mono ?_; rintro e w6 ⟨rfl, rfl⟩
        go_wp2_with fail
        refine (nlsync _).mono ?_; rintro e w6 ⟨rfl, rfl⟩
        go_wp2_with fail
        refine (laddKept_any A y c b HL.out.log HhbB.out (by omega) hle).mono ?_; rintro e w6 ⟨rfl, t6⟩
        rw [HhE.out] at t6 ⊢
        obtain ⟨r6, L6⟩ := HL.out.turned t6
        have Ht6 := Lib.hid t6; clear t6
        have HL6 := Lib.hid L6; clear L6
        go_wp2_with fail
        refine (lkept_any HL6.out.log).mono ?_; rintro e w7 ⟨rfl, rfl⟩
        go_wp2_with fail
        refine (nladd A y c _).mono ?_; rintro e w7 ⟨rfl, rfl⟩
        go_wp2_with fail
        refine (nladdKept A y c _).mono ?_; rintro e w7 ⟨rfl, rfl⟩
        go_wp2_with fail
        refine (nlkeep 1 _).mono ?_; rintro e w7 ⟨rfl, rfl⟩
        go_wp2_with fail
        refine (nlcheck none 0 0 _).mono ?_; rintro e w7 ⟨rfl, rfl⟩
        go_wp2_with fail
        refine (nlfree _).mono ?_; rintro e w7 ⟨rfl, rfl⟩
        go_wp2_with fail
        refine (nlkept _).mono ?_; rintro e w7 ⟨rfl, rfl⟩
        go_wp2_with fail
        refine (nlgen _).mono ?_; rintro e w7 ⟨rfl, rfl⟩
        go_wp2_with fail
        refine (L.lives_any _).mono ?_; rintro e w8 ⟨rfl, b8⟩
        go_wp2_with fail
        go_ret
        exact ⟨rfl, HL6.out.bel.trans (b8.mono HL6.out.le)⟩
end Go.Proofs.Ytkcehoejcklmfaa.walKeeps
