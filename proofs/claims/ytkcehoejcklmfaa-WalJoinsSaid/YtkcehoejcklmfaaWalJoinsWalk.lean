/- WalJoins' walk. (Printed by gen_waljoins.py.) -/
import Derived.Test.YtkcehoejcklmfaaWalJoinPlain
namespace Go.Proofs.Ytkcehoejcklmfaa.walJoins
open Go.RowKit O L K

def t60 (s : List UInt8) : List UInt8 := s.take 60
theorem t60_len (l : List (List UInt8)) : ∀ s ∈ l.map t60, s.length ≤ 60 := by
  intro s hs
  simp only [List.mem_map] at hs
  obtain ⟨x, _, rfl⟩ := hs
  simp [t60]
  omega
theorem cat_step (g : Nat) (l : List (List UInt8)) (k : Nat) (hk : k < l.length) : catF g ((l.map t60).take (k + 1)) = catF g ((l.map t60).take k) ++ frameL g (t60 l[k]) := by
  rw [List.take_succ_eq_append_getElem (by simpa using hk), catF_snoc]
  simp
theorem cat_small (g : Nat) (l : List (List UInt8)) (k : Nat) (hl : l.length ≤ 20) : (catF g ((l.map t60).take k)).length ≤ 1600 := by
  have h1 := catF_len g ((l.map t60).take k) (fun s hs => t60_len l s (List.mem_of_mem_take hs))
  have h2 : ((l.map t60).take k).length ≤ 20 := by simp; omega
  omega

set_option maxRecDepth 100000 in
set_option maxHeartbeats 8000000 in
theorem walk (x : Int) (va : Value) (la : List (List UInt8)) (vb : Value) (lb : List (List UInt8)) (w : World) (hx : (Lit.int .u32 x).wf = true) (ha : IsTx w va la) (hb : IsTx w vb lb) :
    Calls Try.prog 10 #[.int .u32 x, va, vb] w fun e w' => e = .returned (.bool true) ∧ Below w.heap.size w w' := by
  obtain ⟨x1, x2⟩ := bounds_u32 hx
  obtain ⟨g, rfl⟩ := Int.eq_ofNat_of_zero_le x1
  have hg : g < 4294967296 := by omega
  clear hx x1 x2
  obtain ⟨A, n, ca, xs, rfl, ra, pa, hna, hca⟩ := ha
  obtain ⟨B, m, cb, ys, rfl, rb, pb, hnb, hcb⟩ := hb
  unfold maxLen at hca hcb
  have hla := ra.len_of TxC.size pa (by omega)
  have hlb := rb.len_of TxC.size pb (by omega)
  obtain ⟨p, hp⟩ : ∃ p : Nat, min n 20 = p := ⟨_, rfl⟩
  obtain ⟨q, hq⟩ : ∃ q : Nat, min m 20 = q := ⟨_, rfl⟩
  replace ra := L.Rd.takeN ra (k := p) (by omega)
  replace rb := L.Rd.takeN rb (k := q) (by omega)
  replace pa := pa.take TxC.size p
  replace pb := pb.take TxC.size q
  have hla' : (la.take p).length = p := by simp; omega
  have hlb' : (lb.take q).length = q := by simp; omega
  generalize la.take p = a at *
  generalize lb.take q = b at *
  generalize xs.take (p * 1) = xa at *
  generalize ys.take (q * 1) = xb at *
  have ep : min (n : Int) 20 = (p : Int) := by omega
  have eq_ : min (m : Int) 20 = (q : Int) := by omega
  have bp : (p : Int) ≤ (ca : Int) := by omega
  have bq : (q : Int) ≤ (cb : Int) := by omega
  have hp20 : p ≤ 20 := by omega
  have hq20 : q ≤ 20 := by omega
  have hn9 : (n : Int) ≤ 9223372036854775807 := by omega
  have hm9 : (m : Int) ≤ 9223372036854775807 := by omega
  clear hp hq hla hlb la lb xs ys
  have Hra := Lib.hid ra; clear ra
  have Hrb := Lib.hid rb; clear rb
  have Hpa := Lib.hid pa; clear pa
  have Hpb := Lib.hid pb; clear pb
  have Hhla' := Lib.hid hla'; clear hla'
  have Hhlb' := Lib.hid hlb'; clear hlb'
  go_enter Try.func10, Try.ntmps10
  go_wp2_with fail
  go_region
  go_wp2_with fail
  go_loopw [8, 36] (fun v t wr => ∃ (k : Nat) (A' : Option Addr) (j c' : Nat), k ≤ p ∧ t = .int .i64 k ∧ v = .slice A' j c' ∧ wr.ownsRow w.heap.size 5 1 (.slice A' j c') j (bv (catF g ((a.map t60).take k))) ∧ Below w.heap.size w wr) (fun _ t _ => p - (intOf t).toNat)
  case atStart => exact ⟨0, none, 0, 0, Nat.zero_le _, rfl, rfl, World.ownsRow_nil _ _ _ _, (Below.refl _ _).drew⟩
  case round =>
    obtain ⟨k, A', j, c', hk, rfl, rfl, hown, hbel⟩ := hrel
    have hj : (catF g ((a.map t60).take k)).length = j := own_len hown
    have hj16 := cat_small g a k (by rw [Hhla'.out]; omega)
    by_cases hlt : k < p
    · have hka : k < a.length := by rw [Hhla'.out]; exact hlt
      obtain ⟨b1, off1, vs, rfl, hbl, ⟨A3, m3, c3, rfl, hr3, hm3, hc3⟩, hc⟩ := Hra.out.elem TxC.size Hpa.out hka (by omega)
      have e0 := (hbel.cell (p := ⟨b1, off1 + k * 1 + 0, none⟩) hbl).trans (hc 0 (by omega))
      simp at e0
      unfold maxLen at hc3
      have ht := hr3.take_ 60
      obtain ⟨y, hy⟩ : ∃ y : Nat, min m3 60 = y := ⟨_, rfl⟩
      rw [hy] at ht
      have ey : min (m3 : Int) 60 = (y : Int) := by omega
      have by_ : (y : Int) ≤ (c3 : Int) := by omega
      have hy60 : y ≤ 60 := by omega
      have hstep := cat_step g a k hka
      rw [show List.take 60 a[k] = t60 a[k] from rfl] at ht
      generalize t60 a[k] = s at *
      have hj2 : j ≤ 1600 := by omega
      have hsB := hbel.size
      clear hy hc hj hj16
      have htw := (ht.below hbel).more hsB
      have Hhown := Lib.hid hown; clear hown
      have Hhbel := Lib.hid hbel; clear hbel
      have Hhr3 := Lib.hid hr3; clear hr3
      have Hht := Lib.hid ht; clear ht
      have Hhstep := Lib.hid hstep; clear hstep
      have Hhtw := Lib.hid htw; clear htw
      go_wp2_with fail
      refine (frame_any A3 y c3 g s _ Hhtw.out (by omega) hg).mono ?_; rintro e w1 ⟨A1, n1, c1, rfl, o1, bb1⟩
      have hn1 := own_len o1
      have hn1' : n1 ≤ 200 := by
        have hsl : s.length = y := by have := Hht.out.1; simp at this; omega
        have h10 := uintL_len10 s.length (by omega)
        rw [← hn1, frameL_len, textL_len]
        omega
      have hs1 := bb1.size
      clear hn1
      have O1 := Lib.hid o1; clear o1
      have BB1 := Lib.hid bb1; clear bb1
      go_wp2_with (at_builtin; refine wpList_app rfl (.tmp 40) (.tmp 47) byteElem rfl w.heap.size _ rfl (own_below Hhown.out BB1.out) rfl (bv (frameL g s)) (Rd.of_own O1.out) (bv_one _) (by unfold maxLen; omega) (by omega) (by omega) ?_; intro A4 c4 w4 hown4 hg4 hr4; have HO4 := Lib.hid hown4; clear hown4; have HG4 := Lib.hid hg4; clear hg4; clear hr4)
      go_roundw
      case rel => exact ⟨k + 1, A4, j + n1, c4, by omega, by go_num, rfl, by rw [Hhstep.out, bv_append]; exact HO4.out, below_app (Hhbel.out.trans (BB1.out.mono hsB)) (own_below Hhown.out BB1.out) HG4.out (by omega)⟩
      case measure => simp [intOf]; omega
    · obtain rfl : k = p := by omega
      rw [List.take_of_length_le (by simp [Hhla'.out])] at hown hj hj16
      obtain ⟨w2, rfl⟩ : ∃ w2 : World, w2 = wr := ⟨_, rfl⟩
      have hs2 := hbel.size
      have hj2 : j ≤ 1600 := by omega
      clear hlt hk
      generalize hX : catF g (a.map t60) = X at *
      have HX := Lib.hid hX; clear hX
      clear hj16
      have Hhown := Lib.hid hown; clear hown
      have Hhbel := Lib.hid hbel; clear hbel
      have Hhj := Lib.hid hj; clear hj
      go_wp2_with fail
      go_loopw [9, 52] (fun v t wr => ∃ (k : Nat) (A' : Option Addr) (j c' : Nat), k ≤ q ∧ t = .int .i64 k ∧ v = .slice A' j c' ∧ wr.ownsRow w2.heap.size 5 1 (.slice A' j c') j (bv (catF g ((b.map t60).take k))) ∧ Below w2.heap.size w2 wr) (fun _ t _ => q - (intOf t).toNat)
      case atStart => exact ⟨0, none, 0, 0, Nat.zero_le _, rfl, rfl, World.ownsRow_nil _ _ _ _, Below.refl _ _⟩
      case round =>
        obtain ⟨k2, A2, jj, c2, hk, rfl, rfl, hown2, hbel2⟩ := hrel
        have hj : (catF g ((b.map t60).take k2)).length = jj := own_len hown2
        have hj16 := cat_small g b k2 (by rw [Hhlb'.out]; omega)
        have hs3 := hbel2.size
        have hb0 := Hhbel.out.trans (hbel2.mono hs2)
        by_cases hlt : k2 < q
        · have hka : k2 < b.length := by rw [Hhlb'.out]; exact hlt
          obtain ⟨b1, off1, vs, rfl, hbl, ⟨A3, m3, c3, rfl, hr3, hm3, hc3⟩, hc⟩ := Hrb.out.elem TxC.size Hpb.out hka (by omega)
          have e0 := (hb0.cell (p := ⟨b1, off1 + k2 * 1 + 0, none⟩) hbl).trans (hc 0 (by omega))
          simp at e0
          unfold maxLen at hc3
          have ht := hr3.take_ 60
          obtain ⟨y, hy⟩ : ∃ y : Nat, min m3 60 = y := ⟨_, rfl⟩
          rw [hy] at ht
          have ey : min (m3 : Int) 60 = (y : Int) := by omega
          have by_ : (y : Int) ≤ (c3 : Int) := by omega
          have hy60 : y ≤ 60 := by omega
          have hstep := cat_step g b k2 hka
          rw [show List.take 60 b[k2] = t60 b[k2] from rfl] at ht
          generalize t60 b[k2] = s at *
          have hjj : jj ≤ 1600 := by omega
          have hsB := hb0.size
          clear hy hc hj hj16
          have htw := (ht.below hb0).more hsB
          have Hhown2 := Lib.hid hown2; clear hown2
          have Hhbel2 := Lib.hid hbel2; clear hbel2
          have Hhb0 := Lib.hid hb0; clear hb0
          have Hhr3 := Lib.hid hr3; clear hr3
          have Hht := Lib.hid ht; clear ht
          have Hhstep := Lib.hid hstep; clear hstep
          have Hhtw := Lib.hid htw; clear htw
          go_wp2_with fail
          refine (frame_any A3 y c3 g s _ Hhtw.out (by omega) hg).mono ?_; rintro e w1 ⟨A1, n1, c1, rfl, o1, bb1⟩
          have hn1 := own_len o1
          have hn1' : n1 ≤ 200 := by
            have hsl : s.length = y := by have := Hht.out.1; simp at this; omega
            have h10 := uintL_len10 s.length (by omega)
            rw [← hn1, frameL_len, textL_len]
            omega
          have hs1 := bb1.size
          clear hn1
          have O1 := Lib.hid o1; clear o1
          have BB1 := Lib.hid bb1; clear bb1
          go_wp2_with (at_builtin; refine wpList_app rfl (.tmp 56) (.tmp 63) byteElem rfl w2.heap.size _ rfl (own_below Hhown2.out BB1.out) rfl (bv (frameL g s)) (Rd.of_own O1.out) (bv_one _) (by unfold maxLen; omega) (by omega) (by omega) ?_; intro A4 c4 w4 hown4 hg4 hr4; have HO4 := Lib.hid hown4; clear hown4; have HG4 := Lib.hid hg4; clear hg4; clear hr4)
          go_roundw
          case rel => exact ⟨k2 + 1, A4, jj + n1, c4, by omega, by go_num, rfl, by rw [Hhstep.out, bv_append]; exact HO4.out, below_app (Hhbel2.out.trans (BB1.out.mono hs3)) (own_below Hhown2.out BB1.out) HG4.out (by omega)⟩
          case measure => simp [intOf]; omega
        · obtain rfl : k2 = q := by omega
          rw [List.take_of_length_le (by simp [Hhlb'.out])] at hown2 hj hj16
          obtain ⟨w3, rfl⟩ : ∃ w3 : World, w3 = wr := ⟨_, rfl⟩
          have hjj : jj ≤ 1600 := by omega
          clear hlt hk
          generalize hY : catF g (b.map t60) = Y at *
          have HY := Lib.hid hY; clear hY
          clear hj16
          have hsb := hb0.size
          have rX := (Rd.of_own Hhown.out).next hbel2
          have rY := Rd.of_own hown2
          have hXj := Hhj.out
          have hS1 := scan_both g hg (a.map t60) (b.map t60) (by rw [HX.out, HY.out, List.length_append]; omega)
          rw [HX.out, HY.out, hXj, hj] at hS1
          have hYj := hj
          have Hhown2 := Lib.hid hown2; clear hown2
          have Hhbel2 := Lib.hid hbel2; clear hbel2
          have Hhb0 := Lib.hid hb0; clear hb0
          have Hhj := Lib.hid hj; clear hj
          have HrX := Lib.hid rX; clear rX
          have HrY := Lib.hid rY; clear rY
          have HhS1 := Lib.hid hS1; clear hS1
          have HhXj := Lib.hid hXj; clear hXj
          have HhYj := Lib.hid hYj; clear hYj
          go_wp2_with (first | (at_builtin; refine wpList_app rfl (.tmp 67) (.tmp 68) byteElem rfl w3.heap.size [] rfl (L.own_litA w3 rfl (Nat.le_refl _)) rfl (bv X) (HrX.out.alloc (Nat.le_refl _) _) (bv_one _) (by unfold maxLen; omega) (by omega) (by simp) ?_; intro A5 c5 w5 hown5 hg5 hr5; simp only [Nat.zero_add, List.nil_append] at hown5; have B5 := below_app ((Below.refl w3.heap.size w3).alloc (Nat.le_refl _) _) (L.own_litA w3 rfl (Nat.le_refl _)) hg5 (by simp); have HO5 := Lib.hid hown5; clear hown5; clear hg5 hr5; have hs5 := B5.size; have HB5 := Lib.hid B5; clear B5) | (at_builtin; refine wpList_app rfl (.tmp 69) (.tmp 70) byteElem rfl w3.heap.size _ rfl HO5.out rfl (bv Y) (HrY.out.next HB5.out) (bv_one _) (by unfold maxLen; omega) (by omega) (by omega) ?_; intro A6 c6 w6 hown6 hg6 hr6; have B6 := below_app HB5.out HO5.out hg6 (by omega); rw [← bv_append] at hown6; have HO6 := Lib.hid hown6; clear hown6; clear hg6 hr6; have hs6 := B6.size; have HB6 := Lib.hid B6; clear B6))
          have hc6 := K.own_cap HO6.out
          obtain ⟨hc61, hc62⟩ := hc6
          refine (scan_any A6 (j + jj) c6 g (X ++ Y) _ (Rd.of_own HO6.out) hc61 (by omega) hc62 hg).mono ?_; rintro e w7 ⟨A7, n7, c7, xs7, rfl, o7, r7, b7⟩
          rw [HhS1.out] at r7
          rw [show (scanFrom (X ++ Y) g 0).2 = j + jj by rw [HhS1.out]]
          have hn7 : (a.map t60 ++ b.map t60).length = n7 := (Rd.of_own o7).len_of SlU.size r7 (by omega)
          obtain rfl : k + k2 = n7 := by rw [← hn7]; simp [Hhla'.out, Hhlb'.out]
          clear hn7
          have B7 := bthen HB6.out (b7.mono (Nat.le_refl _))
          have rX7 := HrX.out.next B7
          have hs7 := B7.size
          have Ho7 := Lib.hid o7; clear o7
          have Hr7 := Lib.hid r7; clear r7
          have Hb7 := Lib.hid b7; clear b7
          have HB7 := Lib.hid B7; clear B7
          have HrX7 := Lib.hid rX7; clear rX7
          go_wp2_with (at_builtin; refine wpList_app rfl (.tmp 77) (.tmp 78) byteElem rfl w7.heap.size [] rfl (L.own_litA w7 rfl (Nat.le_refl _)) rfl (bv X) (HrX7.out.alloc (Nat.le_refl _) _) (bv_one _) (by unfold maxLen; omega) (by omega) (by simp) ?_; intro A8 c8 w8 hown8 hg8 hr8; simp only [Nat.zero_add, List.nil_append] at hown8; have B8 := below_app ((Below.refl w7.heap.size w7).alloc (Nat.le_refl _) _) (L.own_litA w7 rfl (Nat.le_refl _)) hg8 (by simp); have HO8 := Lib.hid hown8; clear hown8; clear hg8 hr8; have hs8 := B8.size; have HB8 := Lib.hid B8; clear B8)
          have hne2 : (g + 1) % 4294967296 ≠ g := by omega
          have hg2 : (g + 1) % 4294967296 < 4294967296 := by omega
          rw [show ((g : Int) + 1) % 4294967296 = (((g + 1) % 4294967296 : Nat) : Int) by omega]
          generalize (g + 1) % 4294967296 = g2 at *
          have hlit := bv_one_lit ((n : Int) % 256) (n % 256) (by omega) (by omega)
          generalize UInt8.ofNat (n % 256) = tb at *
          have hS2 := scan_torn g g2 hg hg2 hne2 (a.map t60) [tb] (by rw [HX.out, List.length_append, HhXj.out, frameL_len, textL_len]; have := uintL_len10 [tb].length (by simp); simp at this ⊢; omega)
          rw [HX.out, HhXj.out] at hS2
          refine (frame_any _ 1 1 g2 [tb] _ ((Rd.lit w8 _ _ hlit _ _ 1 rfl).more (by rw [World.size_alloc]; exact Nat.le_refl _)) (by omega) hg2).mono ?_; rintro e w9 ⟨A9, n9, c9, rfl, o9, b9⟩
          have hn9' : n9 ≤ 100 := by
            have h1 := own_len o9
            have := uintL_len10 [tb].length (by simp)
            rw [← h1, frameL_len, textL_len]
            simp at this ⊢
            omega
          have o8' := own_below (HO8.out.alloc _) b9
          have B9 := bthen HB8.out (bthen ((Below.refl w8.heap.size w8).alloc (Nat.le_refl _) _) b9)
          have hs9 := B9.size
          clear hlit hne2 b9
          have HhS2 := Lib.hid hS2; clear hS2
          have Ho9 := Lib.hid o9; clear o9
          have Ho8' := Lib.hid o8'; clear o8'
          have HB9 := Lib.hid B9; clear B9
          go_wp2_with (at_builtin; refine wpList_app rfl (.tmp 79) (.tmp 84) byteElem rfl w7.heap.size _ rfl Ho8'.out rfl (bv (frameL g2 [tb])) (Rd.of_own Ho9.out) (bv_one _) (by unfold maxLen; omega) (by omega) (by omega) ?_; intro A10 c10 w10 hown10 hg10 hr10; have B10 := below_app HB9.out Ho8'.out hg10 (by omega); rw [← bv_append] at hown10; have HO10 := Lib.hid hown10; clear hown10; clear hg10 hr10; have hs10 := B10.size; have HB10 := Lib.hid B10; clear B10)
          obtain ⟨hc101, hc102⟩ := K.own_cap HO10.out
          refine (scan_any A10 (j + n9) c10 g (X ++ frameL g2 [tb]) _ (Rd.of_own HO10.out) hc101 (by omega) hc102 hg).mono ?_; rintro e w11 ⟨A11, n11, c11, xs11, rfl, o11, r11, b11⟩
          rw [HhS2.out] at r11
          rw [show (scanFrom (X ++ frameL g2 [tb]) g 0).2 = j by rw [HhS2.out]]
          have hn11 : (a.map t60).length = n11 := (Rd.of_own o11).len_of SlU.size r11 (by omega)
          obtain rfl : k = n11 := by rw [← hn11]; simp [Hhla'.out]
          clear hn11
          have B11 := bthen HB10.out b11
          have r7' := Hr7.out.imp (SlU.keep (KeepU.of_below B11))
          have R7' := (Rd.of_own Ho7.out).next B11
          have B01 := Hhb0.out.trans ((bthen HB7.out B11).mono hsb)
          have hs11 := B01.size
          clear o11 r11 b11
          have HB11 := Lib.hid B11; clear B11
          have Hr7' := Lib.hid r7'; clear r7'
          have HR7' := Lib.hid R7'; clear R7'
          have HB01 := Lib.hid B01; clear B01
          go_wp2_with fail
          go_loopw [122] (fun t wr => ∃ i : Nat, i ≤ k + k2 ∧ t = .int .i64 (i : Int) ∧ Below w11.heap.size w11 wr) (fun t _ => k + k2 - (intOf t).toNat)
          case atStart => exact ⟨0, Nat.zero_le _, rfl, Below.refl _ _⟩
          case round =>
            obtain ⟨i, hi, rfl, hbl⟩ := hrel
            have hbw := HB01.out.trans (hbl.mono hs11)
            by_cases hlt : i < k + k2
            · have hal := Hhla'.out
              have hblen := Hhlb'.out
              have hlen : i < (a.map t60 ++ b.map t60).length := by simp; omega
              obtain ⟨b7, off7, vs, e7, hb7, ⟨A3, m3, c3, rfl, hr3, hm3, ht3⟩, hc⟩ := HR7'.out.elem SlU.size Hr7'.out hlen (by omega)
              subst e7
              have e0 := (hbl.cell (p := ⟨b7, off7 + i * 1 + 0, none⟩) hb7).trans (hc 0 (by omega))
              simp at e0
              by_cases hk : i < k
              · have hx : i < a.length := by omega
                have hrow : (a.map t60 ++ b.map t60)[i] = t60 a[i] := by rw [List.getElem_append_left (by simpa using hx)]; simp
                rw [hrow] at hr3
                clear hal hblen hlen hrow
                obtain ⟨ba, offa, vs', e9, hba, ⟨A4, m4, c4, rfl, hr4, hm4, hc4⟩, hcc⟩ := Hra.out.elem TxC.size Hpa.out hx (by omega)
                subst e9
                have e1 := (hbw.cell (p := ⟨ba, offa + i * 1 + 0, none⟩) hba).trans (hcc 0 (by omega))
                simp at e1
                unfold maxLen at hc4
                have ht := hr4.take_ 60
                obtain ⟨y, hy⟩ : ∃ y : Nat, min m4 60 = y := ⟨_, rfl⟩
                rw [hy] at ht
                have ey : min (m4 : Int) 60 = (y : Int) := by omega
                have by_ : (y : Int) ≤ (c4 : Int) := by omega
                have by0 : (0 : Int) ≤ (y : Int) := by omega
                rw [show List.take 60 a[i] = t60 a[i] from rfl] at ht
                generalize t60 a[i] = s at *
                have hbW : ba < wr.heap.size := Nat.lt_of_lt_of_le hba hbw.size
                clear hy hcc hc
                have ht2 := (ht.below hbw).more hbw.size
                have q3 := O.strq (W := wr.drew) (c := c3) (hr3.next hbl.drew)
                have Hhr3 := Lib.hid hr3; clear hr3
                have Hht3 := Lib.hid ht3; clear ht3
                have Hhr4 := Lib.hid hr4; clear hr4
                have Hht := Lib.hid ht; clear ht
                have Hht2 := Lib.hid ht2; clear ht2
                have Hhbl := Lib.hid hbl; clear hbl
                have Hhbw := Lib.hid hbw; clear hbw
                have He1 := Lib.hid e1; clear e1
                have He0 := Lib.hid e0; clear e0
                have Hq3 := Lib.hid q3; clear q3
                have e0 := He0.out
                go_wp2_with fail
                clear e0
                refine wp_region_sched [(0, true), (1, true), (2, true), (3, true), (4, true), (5, true), (6, true), (7, true), (8, true), (9, true), (10, true), (11, true), (12, true)] (by kernel_rfl) (by kernel_rfl) (fun _ _ d _ _ h => by cases d <;> exact h) ?_
                refine sbelow (w0 := wr) ((Below.refl _ _).drew) (fun C0 => ?_)
                refine swith (fun W hW => (((bthen C0 hW.out).cell (p := ⟨ba, offa + i, none⟩) hbW).trans He1.out)) (fun q0 => ?_)
                refine swith (fun W hW => (O.strq (c := c4) (Hht2.out.next (bthen C0 hW.out)))) (fun q1 => ?_)
                repeat (first | (refine sreadx rfl rfl ?_; apply Exists.intro; apply And.intro; (· (intro W hW; first | (go_simp; done) | (go_simp; with_reducible rfl) | (go_simp; rw [if_neg (by omega)]; done) | (go_simp; rw [if_neg (by omega)]; with_reducible rfl))); simp only [Act.put, List.setIfInBounds_toArray, List.set_cons_zero, List.set_cons_succ]) | (refine sskip rfl rfl ?_; simp only [Act.put, List.setIfInBounds_toArray, List.set_cons_zero, List.set_cons_succ]))
                refine sdone ?_
                clear q0 q1
                have q3 := Hq3.out
                go_wp2_with fail
                go_roundw
                case rel => exact ⟨i + 1, by omega, by go_num, Hhbl.out.drew⟩
                case measure => simp [intOf]; omega
              · obtain ⟨i', rfl⟩ : ∃ i', i = k + i' := ⟨i - k, by omega⟩
                have hx : i' < b.length := by omega
                have hrow : (a.map t60 ++ b.map t60)[k + i'] = t60 b[i'] := by rw [List.getElem_append_right (by simp; omega)]; simp [hal]
                rw [hrow] at hr3
                clear hal hblen hlen hrow
                have hwr : IntKind.i64.wrap (((k : Int) + (i' : Int)) - (k : Int)) = (i' : Int) := by rw [show ((k : Int) + (i' : Int)) - (k : Int) = (i' : Int) by omega]; exact IntWalk.i64_in _ (by omega)
                have hi1 : (0 : Int) ≤ (i' : Int) := by omega
                have hi2 : (i' : Int) < (k2 : Int) := by omega
                obtain ⟨ba, offa, vs', e9, hba, ⟨A4, m4, c4, rfl, hr4, hm4, hc4⟩, hcc⟩ := Hrb.out.elem TxC.size Hpb.out hx (by omega)
                subst e9
                have e1 := (hbw.cell (p := ⟨ba, offa + i' * 1 + 0, none⟩) hba).trans (hcc 0 (by omega))
                simp at e1
                unfold maxLen at hc4
                have ht := hr4.take_ 60
                obtain ⟨y, hy⟩ : ∃ y : Nat, min m4 60 = y := ⟨_, rfl⟩
                rw [hy] at ht
                have ey : min (m4 : Int) 60 = (y : Int) := by omega
                have by_ : (y : Int) ≤ (c4 : Int) := by omega
                have by0 : (0 : Int) ≤ (y : Int) := by omega
                rw [show List.take 60 b[i'] = t60 b[i'] from rfl] at ht
                generalize t60 b[i'] = s at *
                have hbW : ba < wr.heap.size := Nat.lt_of_lt_of_le hba hbw.size
                clear hy hcc hc
                have ht2 := (ht.below hbw).more hbw.size
                have q3 := O.strq (W := wr.drew) (c := c3) (hr3.next hbl.drew)
                have Hhr3 := Lib.hid hr3; clear hr3
                have Hht3 := Lib.hid ht3; clear ht3
                have Hhr4 := Lib.hid hr4; clear hr4
                have Hht := Lib.hid ht; clear ht
                have Hht2 := Lib.hid ht2; clear ht2
                have Hhbl := Lib.hid hbl; clear hbl
                have Hhbw := Lib.hid hbw; clear hbw
                have He1 := Lib.hid e1; clear e1
                have He0 := Lib.hid e0; clear e0
                have Hq3 := Lib.hid q3; clear q3
                have e0 := He0.out
                go_wp2_with fail
                clear e0
                refine wp_region_sched [(0, true), (1, true), (2, true), (3, true), (4, true), (5, true), (6, true), (7, true), (8, true), (9, true), (10, true), (11, true), (12, true), (13, true), (14, true), (15, true), (16, true), (17, true), (18, true)] (by kernel_rfl) (by kernel_rfl) (fun _ _ d _ _ h => by cases d <;> exact h) ?_
                refine sbelow (w0 := wr) ((Below.refl _ _).drew) (fun C0 => ?_)
                refine swith (fun W hW => (((bthen C0 hW.out).cell (p := ⟨ba, offa + i', none⟩) hbW).trans He1.out)) (fun q0 => ?_)
                refine swith (fun W hW => (O.strq (c := c4) (Hht2.out.next (bthen C0 hW.out)))) (fun q1 => ?_)
                repeat (first | (refine sreadx rfl rfl ?_; apply Exists.intro; apply And.intro; (· (intro W hW; first | (go_simp; done) | (go_simp; with_reducible rfl) | (go_simp; rw [if_neg (by omega)]; done) | (go_simp; rw [if_neg (by omega)]; with_reducible rfl))); simp only [Act.put, List.setIfInBounds_toArray, List.set_cons_zero, List.set_cons_succ]) | (refine sskip rfl rfl ?_; simp only [Act.put, List.setIfInBounds_toArray, List.set_cons_zero, List.set_cons_succ]))
                refine sdone ?_
                clear q0 q1
                have q3 := Hq3.out
                go_wp2_with fail
                go_roundw
                case rel => exact ⟨k + i' + 1, by omega, by go_num, Hhbl.out.drew⟩
                case measure => simp [intOf]; omega
            · go_wp2_with fail
              refine (L.lives_any _).mono ?_; rintro e w12 ⟨rfl, b12⟩
              go_wp2_with fail
              go_ret
              exact ⟨rfl, hbw.trans (b12.mono hbw.size)⟩
end Go.Proofs.Ytkcehoejcklmfaa.walJoins
