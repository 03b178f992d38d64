/- CodeBack's walk: for every code and every text it returns true. -/
import Derived.Test.YtpodniljpinigaaDoorCodeTidy
import Derived.Test.YtpodniljpinigaaDoorCodeSame
import Derived.Test.YtpodniljpinigaaDoorCodeLaw
namespace Go.Proofs.YtpodniljpinigaaDoor.codeBack
open Go.RowKit O V C

theorem cut_ba (l : List UInt8) (k m : Nat) (h : min l.length k = m) : (ByteArray.mk l.toArray).extract 0 m = ⟨(l.take k).toArray⟩ := by
  apply ByteArray.ext
  simp [List.extract_eq_take_drop]
  omega
/-- The code's box. -/
structure TB (w : World) (g : Nat) (A : Option Addr) (n c : Nat) (x : Cd) (W : World) : Prop where
  bx : W.heap[g]? = some (.cells #[.slice A n c, .int .i64 x.r, .int .i64 x.l, .int .i64 x.k] 24 (0, 0))
  be : Below w.heap.size w W
theorem TB.next {w W W' : World} {g : Nat} {A : Option Addr} {n c : Nat} {x : Cd} (h : TB w g A n c x W) (b : Below W.heap.size W W') : TB w g A n c x W' := ⟨box_next h.bx b, bthen h.be b⟩
theorem TB.drew {w W : World} {g : Nat} {A : Option Addr} {n c : Nat} {x : Cd} (h : TB w g A n c x W) : TB w g A n c x W.drew := ⟨h.bx, h.be.drew⟩
theorem parseA_len (s : List UInt8) : (parseA s).1.ins.length ≤ s.length := by
  by_cases h : (parseA s).2 = 0
  · exact (parseA_back (s := s) (c := (parseA s).1) (Prod.ext rfl h)).2.2.2.2.2
  · rw [parseA_zero h]; exact Nat.zero_le _
theorem rows_light : ∀ (xs : List Ins), (∀ x ∈ xs, okP x ∧ x.v.s.length ≤ 100) → (rowsL xs).length ≤ xs.length * 1501
  | [], _ => by simp [rowsL]
  | x :: xs, h => by
    have h1 := rows_light xs (fun y hy => h y (by simp [hy]))
    have h2 := light_len (h x (by simp)).1 (h x (by simp)).2
    have e : rowsL (x :: xs) = printI x ++ [10] ++ rowsL xs := by simp [rowsL]
    rw [e]; simp only [List.length_append, List.length_cons, List.length_nil]; omega
set_option maxHeartbeats 4000000 in
set_option maxRecDepth 100000 in
theorem walk (v0 : Value) (x : Cd) (s : ByteArray) (w : World) (h0 : IsCode w v0 x) (hs : s.size ≤ maxLen) :
    Calls Tryd.prog 3 #[v0, .string s] w fun e w' => e = .returned (.bool true) ∧ Below w.heap.size w w' := by
  obtain ⟨A, n, c, rfl, hx, ox, hc⟩ := h0
  obtain ⟨l0, rfl⟩ : ∃ l0 : List UInt8, s = ⟨l0.toArray⟩ := ⟨s.data.toList, by cases s; simp⟩
  have hsz : (ByteArray.mk l0.toArray).size = l0.length := by simp [ByteArray.size]
  rw [hsz] at hs
  unfold maxLen at hs hc
  have hn := hx.n
  obtain ⟨m, hm⟩ : ∃ m : Nat, min l0.length 1500 = m := ⟨_, rfl⟩
  have ex : min (l0.length : Int) 1500 = (m : Int) := by omega
  have hm2 : (m : Int) ≤ (l0.length : Int) := by omega
  have hcut := cut_ba l0 1500 m hm
  have hll : (l0.take 1500).length ≤ 1500 := by simp; omega
  generalize l0.take 1500 = l at hcut hll
  clear hm
  have hT : TB w w.heap.size A n c x (w.alloc (.cells #[.slice A n c, .int .i64 x.r, .int .i64 x.l, .int .i64 x.k] 24)) :=
    ⟨alloc_at rfl, (Below.refl _ _).alloc (Nat.le_refl _) _⟩
  have HT := Lib.hid hT
  obtain ⟨x0, x1, x2, x3⟩ := cells4d hT.bx
  have HX := Lib.hid hx
  have hfr := Lib.hid ox.r
  have hfl := Lib.hid ox.l
  have hfk := Lib.hid ox.k
  have HOI := Lib.hid ox.i
  clear hT hx ox
  obtain ⟨na, nb, nd, zs⟩ := x
  dsimp only at *
  unfold cdV
  have hni : (n : Int) ≤ 9223372036854775807 := by omega
  by_cases h60 : (n : Int) > 60
  · have d1 : decide ((n : Int) > 60) = true := by simpa using h60
    have h60n : 60 < n := by omega
    go_enter Tryd.func3, Tryd.ntmps3
    go_wp2_with fail
    refine (clives_any _).mono ?_; rintro e w1 ⟨rfl, b1⟩
    go_wp2_with fail
    go_ret
    exact ⟨rfl, (HT.out.next b1).be⟩
  · have d1 : decide ((n : Int) > 60) = false := by simpa using h60
    have h60n : ¬ 60 < n := by omega
    obtain ⟨mn, hmn⟩ : ∃ mn, (if nd < if nb < na then nb else na then nd else if nb < na then nb else na) = mn := ⟨_, rfl⟩
    obtain ⟨mx, hmx⟩ : ∃ mx, (if (if na < nb then nb else na) < nd then nd else if na < nb then nb else na) = mx := ⟨_, rfl⟩
    have hmnl : mn ≤ na ∧ mn ≤ nb ∧ mn ≤ nd := by rw [← hmn]; split <;> split <;> omega
    have hmxl : na ≤ mx ∧ nb ≤ mx ∧ nd ≤ mx := by rw [← hmx]; split <;> split <;> omega
    have HMN := Lib.hid hmnl
    have HMX := Lib.hid hmxl
    clear hmnl hmxl
    by_cases hm : mn < 0
    · have c1 : decide (mn < 0) = true := decide_eq_true hm
      go_enter Tryd.func3, Tryd.ntmps3
      go_wp2_with fail
      refine (clives_any _).mono ?_; rintro e w1 ⟨rfl, b1⟩
      go_wp2_with fail
      go_ret
      exact ⟨rfl, (HT.out.next b1).be⟩
    · have c1 : decide (mn < 0) = false := decide_eq_false hm
      by_cases hx2 : mx > 1000000
      · have c2 : decide (mx > 1000000) = true := decide_eq_true hx2
        go_enter Tryd.func3, Tryd.ntmps3
        go_wp2_with fail
        refine (clives_any _).mono ?_; rintro e w1 ⟨rfl, b1⟩
        go_wp2_with fail
        go_ret
        exact ⟨rfl, (HT.out.next b1).be⟩
      · have c2 : decide (mx > 1000000) = false := decide_eq_false hx2
        have HIN : Hid (inB na ∧ inB nb ∧ inB nd) := Lib.hid (by have := HMN.out; have := HMX.out; unfold inB; omega)
        go_enter Tryd.func3, Tryd.ntmps3
        go_wp2_with fail
        clear x0 x1 x2 x3 hmn hmx HMN HMX
        generalize (w.alloc (.cells #[.slice A n c, .int .i64 na, .int .i64 nb, .int .i64 nd] 24)) = W1 at *
        go_loopw [4, 44] (fun _ iv wr => ∃ j : Nat, j ≤ n ∧ iv = .int .i64 (j : Int) ∧ Hid (∀ q ∈ zs.take j, q.v.s.length ≤ 100 ∧ tidy q) ∧ Hid (TB w w.heap.size A n c ⟨na, nb, nd, zs⟩ wr)) (fun _ iv _ => n - (intOf iv).toNat)
        case atStart => exact ⟨0, by omega, rfl, Lib.hid (by simp), HT⟩
        case round =>
          obtain ⟨j, hj, rfl, HL, HB⟩ := hrel
          clear HT
          have hlen := HX.out.len
          by_cases hlt : j < n
          · have hji : (j : Int) < (n : Int) := by omega
            have hjl : j < zs.length := by rw [hlen]; exact hlt
            obtain ⟨b1, off, rfl, hbl, hc8⟩ := HX.out.at8 hjl
            obtain ⟨c0, c1', c2', c3, c4, c5, c6, c7⟩ := hc8 wr HB.out.be
            have HTK : Hid (zs.take (j + 1) = zs.take j ++ [zs[j]]) := Lib.hid (List.take_succ_eq_append_getElem hjl)
            have HIO := Lib.hid (HOI.out _ (List.getElem_mem hjl))
            have hqs : (zs[j]).v.s.length ≤ 9223372036854775807 := by
              have := HIO.out.v.s; unfold maxLen at this; omega
            clear hc8
            generalize zs[j] = q at *
            clear hjl hlen
            have hQ := heap_alloc_new wr (.cells #[.int .i64 q.op, .int .i64 q.a, .int .i64 q.b, .int .i64 q.c, .int .i64 q.d, .int .i64 q.v.k, .int .i64 q.v.n, .string ⟨q.v.s.toArray⟩] 29)
            have HQ := Lib.hid hQ
            have HA : Hid (Below wr.heap.size wr (wr.alloc (.cells #[.int .i64 q.op, .int .i64 q.a, .int .i64 q.b, .int .i64 q.c, .int .i64 q.d, .int .i64 q.v.k, .int .i64 q.v.n, .string ⟨q.v.s.toArray⟩] 29))) := Lib.hid ((Below.refl _ _).alloc (Nat.le_refl _) _)
            obtain ⟨e0, e1, e2, e3, e4, e5, e6, e7⟩ := cells8c hQ
            clear hQ
            go_wp2_with fail
            refine (light_any q _ (by omega)).mono ?_; rintro e w5 ⟨rfl, b5⟩
            have HB5 := Lib.hid ((HB.out.next HA.out).next b5)
            have hQ5 := box_next HQ.out b5
            clear e0 e1 e2 e3 e4 e5 e6 e7 c0 c1' c2' c3 c4 c5 c6 c7
            obtain ⟨e0, e1, e2, e3, e4, e5, e6, e7⟩ := cells8c hQ5
            clear hQ5 b5
            by_cases hq : (q.v.s.length : Int) ≤ 100
            · rw [decide_eq_true hq]
              have hq' : q.v.s.length ≤ 100 := by omega
              go_wp2_with fail
              refine (rtidy_any q _ (by omega) HIO.out.fl ⟨HIO.out.v.n1, HIO.out.v.n2⟩).mono ?_; rintro e w6 ⟨⟨f, rfl, hf⟩, b6⟩
              have HB6 := Lib.hid (HB5.out.next b6)
              clear b6
              cases f with
              | true =>
                have HTD := Lib.hid (hf rfl)
                clear hf
                go_wp2_with fail
                go_roundw
                case rel => exact ⟨j + 1, by omega, by go_num, Lib.hid (fun z hz => by
                  rw [HTK.out] at hz
                  rcases List.mem_append.1 hz with h | h
                  · exact HL.out z h
                  · rw [List.mem_singleton] at h; rw [h]; exact ⟨hq', HTD.out⟩), HB6⟩
                case measure => simp [intOf]; omega
              | false =>
                clear hf
                go_wp2_with fail
                refine (clives_any _).mono ?_; rintro e w7 ⟨rfl, b7⟩
                go_wp2_with fail
                go_ret
                exact ⟨rfl, (HB6.out.next b7).be⟩
            · rw [decide_eq_false hq]
              go_wp2_with fail
              refine (clives_any _).mono ?_; rintro e w7 ⟨rfl, b7⟩
              go_wp2_with fail
              go_ret
              exact ⟨rfl, (HB5.out.next b7).be⟩
          · obtain rfl : j = n := by omega
            have hL := HL.out
            rw [List.take_of_length_le (by omega)] at hL
            have hox : ∀ q ∈ zs, okP q ∧ q.v.s.length ≤ 100 := fun q hq => ⟨(hL q hq).2.ok, (hL q hq).1⟩
            have htd : ∀ q ∈ zs, tidy q := fun q hq => (hL q hq).2
            have hpr : parseA (printA ⟨na, nb, nd, zs⟩) = (⟨na, nb, nd, zs⟩, 0) := parseA_print (c := ⟨na, nb, nd, zs⟩) htd HIN.out.1 HIN.out.2.1 HIN.out.2.2
            have HPR := Lib.hid hpr
            have hpl : (printA ⟨na, nb, nd, zs⟩).length ≤ 100000 := by
              have h1 := rows_light zs hox
              have h2 := head_len hfr.out hfl.out hfk.out
              unfold printA
              dsimp only
              simp only [List.length_append, List.length_cons, List.length_nil]
              omega
            have HOX : Hid (∀ q ∈ zs, okP q) := Lib.hid (fun q hq => (hox q hq).1)
            obtain ⟨x0, x1, x2, x3⟩ := cells4d HB.out.bx
            clear hL hox htd hpr HL
            go_wp2_with fail
            refine (cprintA_any A j c na nb nd zs _ (HX.out.next HB.out.be) (by omega) HOX.out hfr.out hfl.out hfk.out).mono ?_; rintro e w5 ⟨rfl, b5⟩
            have HB5 := Lib.hid (HB.out.next b5)
            clear b5
            generalize printA ⟨na, nb, nd, zs⟩ = pt at *
            go_wp2_with fail
            refine (cparseA_any pt _ hpl).mono ?_; rintro e w6 ⟨⟨P, p, pc, he, hI6⟩, b6⟩
            rw [HPR.out] at he hI6
            dsimp only at he hI6
            subst he
            obtain rfl : p = j := by rw [← hI6.len, hlen]
            have HB6 := Lib.hid ((HB5.out.next b6).next ((Below.refl _ _).alloc (Nat.le_refl _) (.cells #[.slice P p pc, .int .i64 na, .int .i64 nb, .int .i64 nd] 24)))
            have HP6 := Lib.hid (heap_alloc_new w6 (.cells #[.slice P p pc, .int .i64 na, .int .i64 nb, .int .i64 nd] 24))
            have HI6 := Lib.hid (hI6.next ((Below.refl _ _).alloc (Nat.le_refl _) (.cells #[.slice P p pc, .int .i64 na, .int .i64 nb, .int .i64 nd] 24)))
            clear hI6 b6 x0 x1 x2 x3
            unfold cdV
            go_wp2_with fail
            refine (cparseA_any l _ (by omega)).mono ?_; rintro e w8 ⟨⟨P', p', pc', he, hI8⟩, b8⟩
            have hple := parseA_len l
            have hpl8 := hI8.len
            have hback : (parseA l).2 = 0 → printA (parseA l).1 = l ∧ (∀ q ∈ (parseA l).1.ins, tidy q) ∧ fit (parseA l).1.r ∧ fit (parseA l).1.l ∧ fit (parseA l).1.k := fun h => by
              obtain ⟨h1, h2, h3, h4, h5, _⟩ := parseA_back (s := l) (c := (parseA l).1) (Prod.ext rfl h)
              exact ⟨h1, h2, h3.fit, h4.fit, h5.fit⟩
            obtain ⟨pa, hpa⟩ : ∃ pa, parseA l = pa := ⟨_, rfl⟩
            rw [hpa] at he hI8 hple hpl8 hback
            clear hpa
            obtain ⟨⟨r, lc, kc, us⟩, k⟩ := pa
            dsimp only at he hI8 hple hpl8 hback
            subst he
            have hp5 : p' ≤ 5000 := by omega
            have HB8 := Lib.hid ((HB6.out.next b8).next ((Below.refl _ _).alloc (Nat.le_refl _) (.cells #[.slice P' p' pc', .int .i64 r, .int .i64 lc, .int .i64 kc] 24)))
            have HP8 := Lib.hid (box_next (box_next HP6.out b8) ((Below.refl _ _).alloc (Nat.le_refl _) (.cells #[.slice P' p' pc', .int .i64 r, .int .i64 lc, .int .i64 kc] 24)))
            have HQ8 := Lib.hid (heap_alloc_new w8 (.cells #[.slice P' p' pc', .int .i64 r, .int .i64 lc, .int .i64 kc] 24))
            have HI8 := Lib.hid ((HI6.out.next b8).next ((Below.refl _ _).alloc (Nat.le_refl _) (.cells #[.slice P' p' pc', .int .i64 r, .int .i64 lc, .int .i64 kc] 24)))
            have HJ8 := Lib.hid (hI8.next ((Below.refl _ _).alloc (Nat.le_refl _) (.cells #[.slice P' p' pc', .int .i64 r, .int .i64 lc, .int .i64 kc] 24)))
            have HBK := Lib.hid hback
            clear hI8 b8 HB6 HP6 HI6 HB5 HB hback
            obtain ⟨x0, x1, x2, x3⟩ := cells4d HB8.out.bx
            obtain ⟨y0, y1, y2, y3⟩ := cells4d HP8.out
            obtain ⟨z0, z1, z2, z3⟩ := cells4d HQ8.out
            unfold cdV
            go_wp2_with fail
            refine (rsameC_any P A p pc p c na nb nd na nb nd zs zs _ HI8.out (HX.out.next HB8.out.be) (by omega)).mono ?_; rintro e w9 ⟨rfl, b9⟩
            rw [sameC_self]
            have HB9 := Lib.hid (HB8.out.next b9)
            have HJ9 := Lib.hid (HJ8.out.next b9)
            obtain ⟨z0', z1', z2', z3'⟩ := cells4d (box_next HQ8.out b9)
            clear x0 x1 x2 x3 y0 y1 y2 y3 z0 z1 z2 z3
            by_cases hk0 : k = 0
            · subst hk0
              obtain ⟨k1, k2, k3, k4, k5⟩ := HBK.out rfl
              have HK1 := Lib.hid k1
              have HK2 : Hid (∀ q ∈ us, okP q) := Lib.hid (fun q hq => (k2 q hq).ok)
              clear k1 k2 b9
              go_wp2_with fail
              refine (cprintA_any P' p' pc' r lc kc us _ HJ9.out hp5 HK2.out k3 k4 k5).mono ?_; rintro e w10 ⟨rfl, b10⟩
              rw [HK1.out]
              go_wp2_with fail
              refine (clives_any _).mono ?_; rintro e w11 ⟨rfl, b11⟩
              go_wp2_with fail
              go_ret
              exact ⟨rfl, ((HB9.out.next b10).next b11).be⟩
            · have d3 : ((k : Int) != 0) = true := by simp; omega
              have d4 : ((k : Int) == 0) = false := by simp; omega
              clear b9
              go_wp2_with fail
              refine (clives_any _).mono ?_; rintro e w11 ⟨rfl, b11⟩
              go_wp2_with fail
              go_ret
              exact ⟨rfl, (HB9.out.next b11).be⟩
end Go.Proofs.YtpodniljpinigaaDoor.codeBack
