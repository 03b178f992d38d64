/- CodeLines' walk: for every instruction and every text it returns true. -/
import Derived.Test.YtpodniljpinigaaCodeRef4
import Derived.Test.YtpodniljpinigaaCodeLaw
import Derived.Test.YtpodniljpinigaaCodeOpen
import Derived.Deep.DeepCutAuto
namespace Go.Proofs.Ytpodniljpinigaa.codeLines
open Go.RowKit O V C

theorem eql_yes (x : Ins) (w : World) : (binOp .eql 25 (insV x) (insV x)).run Try.prog w = .ok (.bool true) w := by
  unfold insV insC; go_simp
theorem cut_ba (l : List UInt8) (k m : Nat) (h : min l.length k = m) : (ByteArray.mk l.toArray).extract 0 m = ⟨(l.take k).toArray⟩ := by
  apply ByteArray.ext
  simp [List.extract_eq_take_drop]
  omega
/-- A box with an instruction, and all that lay there before. -/
def Bx (w : World) (g : Nat) (x : Ins) (W : World) : Prop := W.heap[g]? = some (.cells (insC x).toArray 25 (0, 0)) ∧ Below w.heap.size w W
theorem Bx.next {w W W' : World} {g : Nat} {x : Ins} (h : Bx w g x W) (b : Below W.heap.size W W') : Bx w g x W' := ⟨box_next h.1 b, bthen h.2 b⟩
theorem both (s : List UInt8) : ∃ (y : Ins) (f : Bool), RetI (parseM s) = .returned (.tuple #[insV y, .bool f]) ∧ ∀ e, RetRf s e → ∃ z, e = .returned (.tuple #[insV z, .bool f]) ∧ (f = true → z = y) ∧ (f = false → y = zI) := by
  have h := parseRf_eq s
  cases hp : parseM s with
  | none =>
    refine ⟨zI, false, rfl, fun e he => ?_⟩
    obtain ⟨z, rfl, _⟩ := he
    rw [h, hp]
    exact ⟨z, rfl, fun h => (by cases h), fun _ => rfl⟩
  | some x =>
    refine ⟨x, true, rfl, fun e he => ?_⟩
    obtain ⟨z, rfl, hz⟩ := he
    rw [h, hp] at hz ⊢
    exact ⟨z, rfl, fun _ => hz x rfl, fun h => (by cases h)⟩
set_option maxRecDepth 100000 in
set_option maxHeartbeats 4000000 in
theorem walk (v0 : Value) (x : Ins) (s : ByteArray) (w : World) (h0 : IsIns v0 x) (hs : s.size ≤ maxLen) :
    Calls Try.prog 3 #[v0, .string s] w fun e w' => e = .returned (.bool true) ∧ Below w.heap.size w w' := by
  obtain ⟨rfl, ox⟩ := h0
  have lx := ox.v.s
  obtain ⟨l0, rfl⟩ : ∃ l0 : List UInt8, s = ⟨l0.toArray⟩ := ⟨s.data.toList, by cases s; simp⟩
  have hsz : (ByteArray.mk l0.toArray).size = l0.length := by simp [ByteArray.size]
  rw [hsz] at hs
  unfold maxLen at hs lx
  obtain ⟨m, hm⟩ : ∃ m : Nat, min l0.length 200 = m := ⟨_, rfl⟩
  have ex : min (l0.length : Int) 200 = (m : Int) := by omega
  have hm2 : (m : Int) ≤ (l0.length : Int) := by omega
  have hcut := cut_ba l0 200 m hm
  have hll : (l0.take 200).length ≤ 200 := by simp; omega
  generalize l0.take 200 = l at hcut hll
  clear hm
  by_cases hx : (x.v.s.length : Int) ≤ 100
  · have lx' : x.v.s.length ≤ 100 := by omega
    obtain ⟨y, f, hy, hz⟩ := both l
    unfold insV insC
    go_enter Try.func3, Try.ntmps3
    go_wp2_with fail
    refine (light_any x _ (by omega)).mono ?_; rintro e w1 ⟨rfl, b1⟩
    rw [show decide ((x.v.s.length : Int) ≤ 100) = true by simp; omega]
    have HX1 : Hid (Bx w w.heap.size x w1) := Lib.hid ⟨box_next (alloc_at rfl) b1, bthen ((Below.refl _ _).alloc (Nat.le_refl _) _) b1⟩
    clear b1
    go_wp2_with fail
    refine (parse_c l _ (by omega)).mono ?_; rintro e w2 ⟨he, b2⟩
    rw [hy] at he
    subst he
    unfold insV insC
    have HX2 := Lib.hid (HX1.out.next b2)
    have HX2' := Lib.hid (HX2.out.next ((Below.refl _ _).alloc (Nat.le_refl _) (.cells (insC y).toArray 25)))
    have HY2 : Hid ((w2.alloc (.cells (insC y).toArray 25)).heap[w2.heap.size]? = some (.cells (insC y).toArray 25 (0, 0))) := Lib.hid (heap_alloc_new _ _)
    clear b2 HX1 hy
    unfold insC at HX2' HY2
    go_wp2_with fail
    refine (rparse_c l _ (by omega)).mono ?_; rintro e w3 ⟨he, b3⟩
    obtain ⟨z, rfl, hz1, hz2⟩ := hz _ he
    unfold insV insC
    have BA : ∀ q : Ins, Below w3.heap.size w3 (w3.alloc (.cells (insC q).toArray 25)) := fun q => (Below.refl _ _).alloc (Nat.le_refl _) _
    cases f with
    | true =>
      obtain rfl := hz1 rfl
      have HX5 := Lib.hid ((HX2'.out.next b3).next (BA z))
      have HY5 := Lib.hid (box_next (box_next HY2.out b3) (BA z))
      have HZ5 : Hid ((w3.alloc (.cells (insC z).toArray 25)).heap[w3.heap.size]? = some (.cells (insC z).toArray 25 (0, 0))) := Lib.hid (heap_alloc_new _ _)
      clear he b3 BA HX2 HX2' HY2 hz hz1 hz2
      unfold insC at HX5 HY5 HZ5
      go_wp2_with fail
      generalize (w3.alloc (.cells #[.int .i64 z.op, .int .i64 z.a, .int .i64 z.b, .int .i64 z.c, .int .i64 z.d, .int .i64 z.v.k, .int .i64 z.v.n, .string ⟨z.v.s.toArray⟩] 25)) = W5 at *
      have qe := fun w => eql_yes z w
      unfold insV insC at qe
      go_wp2_with fail
      refine wp_region_sched [(0, true), (2, true), (1, false), (3, false), (4, true), (5, true), (6, true), (7, true), (9, true), (10, true), (8, false), (11, false), (12, true), (13, true), (14, true), (15, true), (16, true), (18, true), (19, true), (17, false), (20, false), (21, true), (22, true), (23, true), (24, true), (25, true), (26, true), (27, true), (28, true), (29, true), (30, true), (31, true), (32, true), (33, true), (34, false), (35, true), (36, true)] (by kernel_rfl) (by kernel_rfl) (fun _ _ d _ _ h => by cases d <;> exact h) ?_
      refine sbelow (w0 := W5) ((Below.refl _ _).drew) (fun B0 => ?_)
      refine swith (fun W hW => (cells8c (HX5.out.next (bthen B0 hW.out)).1)) (fun qx => ?_)
      refine swith (fun W hW => (cells8c (box_next HY5.out (bthen B0 hW.out)))) (fun qy => ?_)
      refine swith (fun W hW => (cells8c (box_next HZ5.out (bthen B0 hW.out)))) (fun qz => ?_)
      repeat (first | (refine sreadx rfl rfl ?_; apply Exists.intro; apply And.intro; (· (intro W hW; first | (go_simp; done) | (go_simp; with_reducible rfl) | (go_simp; rw [if_neg (by omega)]; done) | (go_simp; rw [if_neg (by omega)]; with_reducible rfl))); simp only [Act.put, List.setIfInBounds_toArray, List.set_cons_zero, List.set_cons_succ]) | (refine sskip rfl rfl ?_; simp only [Act.put, List.setIfInBounds_toArray, List.set_cons_zero, List.set_cons_succ]))
      refine scall rfl rfl (fun K hK => ?_)
      go_simp
      refine (cprint_any x _ (by omega) ox.fl ⟨ox.v.n1, ox.v.n2⟩).mono ?_; rintro e w5 ⟨rfl, b5⟩
      go_wp2_with fail
      refine hK.out _ _ (by exact b5) ?_
      clear hK K
      try simp only [Act.put, List.setIfInBounds_toArray, List.set_cons_zero, List.set_cons_succ]
      replace qx := fun (W : World) (hW : Grow w5 W) => qx W (Grow.trans (b5) hW)
      replace qy := fun (W : World) (hW : Grow w5 W) => qy W (Grow.trans (b5) hW)
      replace qz := fun (W : World) (hW : Grow w5 W) => qz W (Grow.trans (b5) hW)
      have B5 := bthen B0 b5
      repeat (first | (refine sreadx rfl rfl ?_; apply Exists.intro; apply And.intro; (· (intro W hW; first | (go_simp; done) | (go_simp; with_reducible rfl) | (go_simp; rw [if_neg (by omega)]; done) | (go_simp; rw [if_neg (by omega)]; with_reducible rfl))); simp only [Act.put, List.setIfInBounds_toArray, List.set_cons_zero, List.set_cons_succ]) | (refine sskip rfl rfl ?_; simp only [Act.put, List.setIfInBounds_toArray, List.set_cons_zero, List.set_cons_succ]))
      refine scall rfl rfl (fun K hK => ?_)
      go_simp
      refine (rcprint_any x _ (by omega) ox.fl ⟨ox.v.n1, ox.v.n2⟩).mono ?_; rintro e w6 ⟨rfl, b6⟩
      go_wp2_with fail
      refine hK.out _ _ (by exact b6) ?_
      clear hK K
      try simp only [Act.put, List.setIfInBounds_toArray, List.set_cons_zero, List.set_cons_succ]
      replace qx := fun (W : World) (hW : Grow w6 W) => qx W (Grow.trans (b6) hW)
      replace qy := fun (W : World) (hW : Grow w6 W) => qy W (Grow.trans (b6) hW)
      replace qz := fun (W : World) (hW : Grow w6 W) => qz W (Grow.trans (b6) hW)
      have B6 := bthen B5 b6
      generalize printI x = pl
      repeat (first | (refine sreadx rfl rfl ?_; apply Exists.intro; apply And.intro; (· (intro W hW; first | (go_simp; done) | (go_simp; with_reducible rfl) | (go_simp; rw [if_neg (by omega)]; done) | (go_simp; rw [if_neg (by omega)]; with_reducible rfl))); simp only [Act.put, List.setIfInBounds_toArray, List.set_cons_zero, List.set_cons_succ]) | (refine sskip rfl rfl ?_; simp only [Act.put, List.setIfInBounds_toArray, List.set_cons_zero, List.set_cons_succ]))
      refine scall rfl rfl (fun K hK => ?_)
      go_simp
      refine (name_any x.op _).mono ?_; rintro e w7 ⟨rfl, b7⟩
      go_wp2_with fail
      refine hK.out _ _ (by exact b7) ?_
      clear hK K
      try simp only [Act.put, List.setIfInBounds_toArray, List.set_cons_zero, List.set_cons_succ]
      replace qx := fun (W : World) (hW : Grow w7 W) => qx W (Grow.trans (b7) hW)
      replace qy := fun (W : World) (hW : Grow w7 W) => qy W (Grow.trans (b7) hW)
      replace qz := fun (W : World) (hW : Grow w7 W) => qz W (Grow.trans (b7) hW)
      have B7 := bthen B6 b7
      repeat (first | (refine sreadx rfl rfl ?_; apply Exists.intro; apply And.intro; (· (intro W hW; first | (go_simp; done) | (go_simp; with_reducible rfl) | (go_simp; rw [if_neg (by omega)]; done) | (go_simp; rw [if_neg (by omega)]; with_reducible rfl))); simp only [Act.put, List.setIfInBounds_toArray, List.set_cons_zero, List.set_cons_succ]) | (refine sskip rfl rfl ?_; simp only [Act.put, List.setIfInBounds_toArray, List.set_cons_zero, List.set_cons_succ]))
      refine scall rfl rfl (fun K hK => ?_)
      go_simp
      refine (rname_any x.op _).mono ?_; rintro e w8 ⟨rfl, b8⟩
      go_wp2_with fail
      refine hK.out _ _ (by exact (by rw [← b8]; exact Below.refl _ _)) ?_
      clear hK K
      try simp only [Act.put, List.setIfInBounds_toArray, List.set_cons_zero, List.set_cons_succ]
      replace qx := fun (W : World) (hW : Grow w8 W) => qx W (Grow.trans ((by rw [← b8]; exact Below.refl _ _)) hW)
      replace qy := fun (W : World) (hW : Grow w8 W) => qy W (Grow.trans ((by rw [← b8]; exact Below.refl _ _)) hW)
      replace qz := fun (W : World) (hW : Grow w8 W) => qz W (Grow.trans ((by rw [← b8]; exact Below.refl _ _)) hW)
      subst b8
      generalize nameI x.op = nl
      repeat (first | (refine sreadx rfl rfl ?_; apply Exists.intro; apply And.intro; (· (intro W hW; first | (go_simp; done) | (go_simp; with_reducible rfl) | (go_simp; rw [if_neg (by omega)]; done) | (go_simp; rw [if_neg (by omega)]; with_reducible rfl))); simp only [Act.put, List.setIfInBounds_toArray, List.set_cons_zero, List.set_cons_succ]) | (refine sskip rfl rfl ?_; simp only [Act.put, List.setIfInBounds_toArray, List.set_cons_zero, List.set_cons_succ]))
      refine scall rfl rfl (fun K hK => ?_)
      go_simp
      refine (fields_any x.op _).mono ?_; rintro e w9 ⟨rfl, b9⟩
      go_wp2_with fail
      refine hK.out _ _ (by exact (by rw [← b9]; exact Below.refl _ _)) ?_
      clear hK K
      try simp only [Act.put, List.setIfInBounds_toArray, List.set_cons_zero, List.set_cons_succ]
      replace qx := fun (W : World) (hW : Grow w9 W) => qx W (Grow.trans ((by rw [← b9]; exact Below.refl _ _)) hW)
      replace qy := fun (W : World) (hW : Grow w9 W) => qy W (Grow.trans ((by rw [← b9]; exact Below.refl _ _)) hW)
      replace qz := fun (W : World) (hW : Grow w9 W) => qz W (Grow.trans ((by rw [← b9]; exact Below.refl _ _)) hW)
      subst b9
      repeat (first | (refine sreadx rfl rfl ?_; apply Exists.intro; apply And.intro; (· (intro W hW; first | (go_simp; done) | (go_simp; with_reducible rfl) | (go_simp; rw [if_neg (by omega)]; done) | (go_simp; rw [if_neg (by omega)]; with_reducible rfl))); simp only [Act.put, List.setIfInBounds_toArray, List.set_cons_zero, List.set_cons_succ]) | (refine sskip rfl rfl ?_; simp only [Act.put, List.setIfInBounds_toArray, List.set_cons_zero, List.set_cons_succ]))
      refine scall rfl rfl (fun K hK => ?_)
      go_simp
      refine (rfields_any x.op _).mono ?_; rintro e w10 ⟨rfl, b10⟩
      go_wp2_with fail
      refine hK.out _ _ (by exact (by rw [← b10]; exact Below.refl _ _)) ?_
      clear hK K
      try simp only [Act.put, List.setIfInBounds_toArray, List.set_cons_zero, List.set_cons_succ]
      replace qx := fun (W : World) (hW : Grow w10 W) => qx W (Grow.trans ((by rw [← b10]; exact Below.refl _ _)) hW)
      replace qy := fun (W : World) (hW : Grow w10 W) => qy W (Grow.trans ((by rw [← b10]; exact Below.refl _ _)) hW)
      replace qz := fun (W : World) (hW : Grow w10 W) => qz W (Grow.trans ((by rw [← b10]; exact Below.refl _ _)) hW)
      subst b10
      generalize fieldsI x.op = nf
      repeat (first | (refine sreadx rfl rfl ?_; apply Exists.intro; apply And.intro; (· (intro W hW; first | (go_simp; done) | (go_simp; with_reducible rfl) | (go_simp; rw [if_neg (by omega)]; done) | (go_simp; rw [if_neg (by omega)]; with_reducible rfl))); simp only [Act.put, List.setIfInBounds_toArray, List.set_cons_zero, List.set_cons_succ]) | (refine sskip rfl rfl ?_; simp only [Act.put, List.setIfInBounds_toArray, List.set_cons_zero, List.set_cons_succ]))
      refine scall rfl rfl (fun K hK => ?_)
      go_simp
      refine (clives_any _).mono ?_; rintro e w11 ⟨rfl, b11⟩
      go_wp2_with fail
      refine hK.out _ _ (by exact b11) ?_
      clear hK K
      try simp only [Act.put, List.setIfInBounds_toArray, List.set_cons_zero, List.set_cons_succ]
      repeat (first | (refine sreadx rfl rfl ?_; apply Exists.intro; apply And.intro; (· (intro W hW; first | (go_simp; done) | (go_simp; with_reducible rfl) | (go_simp; rw [if_neg (by omega)]; done) | (go_simp; rw [if_neg (by omega)]; with_reducible rfl))); simp only [Act.put, List.setIfInBounds_toArray, List.set_cons_zero, List.set_cons_succ]) | (refine sskip rfl rfl ?_; simp only [Act.put, List.setIfInBounds_toArray, List.set_cons_zero, List.set_cons_succ]))
      refine sdone ?_
      go_wp2_with fail
      go_ret
      exact ⟨rfl, (HX5.out.next (bthen B7 b11)).2⟩
    | false =>
      obtain rfl := hz2 rfl
      have hzz := heap_alloc_new w3 (.cells #[.int .i64 z.op, .int .i64 z.a, .int .i64 z.b, .int .i64 z.c, .int .i64 z.d, .int .i64 z.v.k, .int .i64 z.v.n, .string ⟨z.v.s.toArray⟩] 25)
      obtain ⟨z0, z1, z2, z3, z4, z5, z6, z7⟩ := cells8c hzz
      obtain ⟨y0, y1, y2, y3, y4, y5, y6, y7⟩ := frozen8c hzz
      have HX5 := Lib.hid ((HX2'.out.next b3).next (BA zI))
      have HY5 := Lib.hid (box_next (box_next HY2.out b3) (BA zI))
      have HZ5 : Hid ((w3.alloc (.cells (insC zI).toArray 25)).heap[w3.heap.size]? = some (.cells (insC zI).toArray 25 (0, 0))) := Lib.hid (heap_alloc_new _ _)
      clear he b3 BA HX2 HX2' HY2 hz hz1 hz2 hzz
      simp only [insC, zI, zV] at HX5 HY5 HZ5
      go_wp2_with fail
      clear z0 z1 z2 z3 z4 z5 z6 z7 y0 y1 y2 y3 y4 y5 y6 y7
      generalize (w3.alloc (.cells #[.int .i64 0, .int .i64 0, .int .i64 0, .int .i64 0, .int .i64 0, .int .i64 0, .int .i64 0, .string ⟨#[]⟩] 25)) = W5 at *
      have qe := fun w => eql_yes zI w
      unfold insV insC at qe
      go_wp2_with fail
      refine wp_region_sched [(0, true), (2, true), (1, false), (3, false), (4, true), (5, true), (6, true), (7, true), (9, true), (10, true), (8, false), (11, false), (12, true), (13, true), (14, true), (15, true), (16, true), (18, true), (19, true), (17, false), (20, false), (21, true), (22, true), (23, true), (24, true), (25, true), (26, true), (27, true), (28, true), (29, true), (30, true), (31, true), (32, true), (33, true), (34, false), (35, true), (36, true)] (by kernel_rfl) (by kernel_rfl) (fun _ _ d _ _ h => by cases d <;> exact h) ?_
      refine sbelow (w0 := W5) ((Below.refl _ _).drew) (fun B0 => ?_)
      refine swith (fun W hW => (cells8c (HX5.out.next (bthen B0 hW.out)).1)) (fun qx => ?_)
      refine swith (fun W hW => (cells8c (box_next HY5.out (bthen B0 hW.out)))) (fun qy => ?_)
      refine swith (fun W hW => (cells8c (box_next HZ5.out (bthen B0 hW.out)))) (fun qz => ?_)
      repeat (first | (refine sreadx rfl rfl ?_; apply Exists.intro; apply And.intro; (· (intro W hW; first | (go_simp; done) | (go_simp; with_reducible rfl) | (go_simp; rw [if_neg (by omega)]; done) | (go_simp; rw [if_neg (by omega)]; with_reducible rfl))); simp only [Act.put, List.setIfInBounds_toArray, List.set_cons_zero, List.set_cons_succ]) | (refine sskip rfl rfl ?_; simp only [Act.put, List.setIfInBounds_toArray, List.set_cons_zero, List.set_cons_succ]))
      refine scall rfl rfl (fun K hK => ?_)
      go_simp
      refine (cprint_any x _ (by omega) ox.fl ⟨ox.v.n1, ox.v.n2⟩).mono ?_; rintro e w5 ⟨rfl, b5⟩
      go_wp2_with fail
      refine hK.out _ _ (by exact b5) ?_
      clear hK K
      try simp only [Act.put, List.setIfInBounds_toArray, List.set_cons_zero, List.set_cons_succ]
      replace qx := fun (W : World) (hW : Grow w5 W) => qx W (Grow.trans (b5) hW)
      replace qy := fun (W : World) (hW : Grow w5 W) => qy W (Grow.trans (b5) hW)
      replace qz := fun (W : World) (hW : Grow w5 W) => qz W (Grow.trans (b5) hW)
      have B5 := bthen B0 b5
      repeat (first | (refine sreadx rfl rfl ?_; apply Exists.intro; apply And.intro; (· (intro W hW; first | (go_simp; done) | (go_simp; with_reducible rfl) | (go_simp; rw [if_neg (by omega)]; done) | (go_simp; rw [if_neg (by omega)]; with_reducible rfl))); simp only [Act.put, List.setIfInBounds_toArray, List.set_cons_zero, List.set_cons_succ]) | (refine sskip rfl rfl ?_; simp only [Act.put, List.setIfInBounds_toArray, List.set_cons_zero, List.set_cons_succ]))
      refine scall rfl rfl (fun K hK => ?_)
      go_simp
      refine (rcprint_any x _ (by omega) ox.fl ⟨ox.v.n1, ox.v.n2⟩).mono ?_; rintro e w6 ⟨rfl, b6⟩
      go_wp2_with fail
      refine hK.out _ _ (by exact b6) ?_
      clear hK K
      try simp only [Act.put, List.setIfInBounds_toArray, List.set_cons_zero, List.set_cons_succ]
      replace qx := fun (W : World) (hW : Grow w6 W) => qx W (Grow.trans (b6) hW)
      replace qy := fun (W : World) (hW : Grow w6 W) => qy W (Grow.trans (b6) hW)
      replace qz := fun (W : World) (hW : Grow w6 W) => qz W (Grow.trans (b6) hW)
      have B6 := bthen B5 b6
      generalize printI x = pl
      repeat (first | (refine sreadx rfl rfl ?_; apply Exists.intro; apply And.intro; (· (intro W hW; first | (go_simp; done) | (go_simp; with_reducible rfl) | (go_simp; rw [if_neg (by omega)]; done) | (go_simp; rw [if_neg (by omega)]; with_reducible rfl))); simp only [Act.put, List.setIfInBounds_toArray, List.set_cons_zero, List.set_cons_succ]) | (refine sskip rfl rfl ?_; simp only [Act.put, List.setIfInBounds_toArray, List.set_cons_zero, List.set_cons_succ]))
      refine scall rfl rfl (fun K hK => ?_)
      go_simp
      refine (name_any x.op _).mono ?_; rintro e w7 ⟨rfl, b7⟩
      go_wp2_with fail
      refine hK.out _ _ (by exact b7) ?_
      clear hK K
      try simp only [Act.put, List.setIfInBounds_toArray, List.set_cons_zero, List.set_cons_succ]
      replace qx := fun (W : World) (hW : Grow w7 W) => qx W (Grow.trans (b7) hW)
      replace qy := fun (W : World) (hW : Grow w7 W) => qy W (Grow.trans (b7) hW)
      replace qz := fun (W : World) (hW : Grow w7 W) => qz W (Grow.trans (b7) hW)
      have B7 := bthen B6 b7
      repeat (first | (refine sreadx rfl rfl ?_; apply Exists.intro; apply And.intro; (· (intro W hW; first | (go_simp; done) | (go_simp; with_reducible rfl) | (go_simp; rw [if_neg (by omega)]; done) | (go_simp; rw [if_neg (by omega)]; with_reducible rfl))); simp only [Act.put, List.setIfInBounds_toArray, List.set_cons_zero, List.set_cons_succ]) | (refine sskip rfl rfl ?_; simp only [Act.put, List.setIfInBounds_toArray, List.set_cons_zero, List.set_cons_succ]))
      refine scall rfl rfl (fun K hK => ?_)
      go_simp
      refine (rname_any x.op _).mono ?_; rintro e w8 ⟨rfl, b8⟩
      go_wp2_with fail
      refine hK.out _ _ (by exact (by rw [← b8]; exact Below.refl _ _)) ?_
      clear hK K
      try simp only [Act.put, List.setIfInBounds_toArray, List.set_cons_zero, List.set_cons_succ]
      replace qx := fun (W : World) (hW : Grow w8 W) => qx W (Grow.trans ((by rw [← b8]; exact Below.refl _ _)) hW)
      replace qy := fun (W : World) (hW : Grow w8 W) => qy W (Grow.trans ((by rw [← b8]; exact Below.refl _ _)) hW)
      replace qz := fun (W : World) (hW : Grow w8 W) => qz W (Grow.trans ((by rw [← b8]; exact Below.refl _ _)) hW)
      subst b8
      generalize nameI x.op = nl
      repeat (first | (refine sreadx rfl rfl ?_; apply Exists.intro; apply And.intro; (· (intro W hW; first | (go_simp; done) | (go_simp; with_reducible rfl) | (go_simp; rw [if_neg (by omega)]; done) | (go_simp; rw [if_neg (by omega)]; with_reducible rfl))); simp only [Act.put, List.setIfInBounds_toArray, List.set_cons_zero, List.set_cons_succ]) | (refine sskip rfl rfl ?_; simp only [Act.put, List.setIfInBounds_toArray, List.set_cons_zero, List.set_cons_succ]))
      refine scall rfl rfl (fun K hK => ?_)
      go_simp
      refine (fields_any x.op _).mono ?_; rintro e w9 ⟨rfl, b9⟩
      go_wp2_with fail
      refine hK.out _ _ (by exact (by rw [← b9]; exact Below.refl _ _)) ?_
      clear hK K
      try simp only [Act.put, List.setIfInBounds_toArray, List.set_cons_zero, List.set_cons_succ]
      replace qx := fun (W : World) (hW : Grow w9 W) => qx W (Grow.trans ((by rw [← b9]; exact Below.refl _ _)) hW)
      replace qy := fun (W : World) (hW : Grow w9 W) => qy W (Grow.trans ((by rw [← b9]; exact Below.refl _ _)) hW)
      replace qz := fun (W : World) (hW : Grow w9 W) => qz W (Grow.trans ((by rw [← b9]; exact Below.refl _ _)) hW)
      subst b9
      repeat (first | (refine sreadx rfl rfl ?_; apply Exists.intro; apply And.intro; (· (intro W hW; first | (go_simp; done) | (go_simp; with_reducible rfl) | (go_simp; rw [if_neg (by omega)]; done) | (go_simp; rw [if_neg (by omega)]; with_reducible rfl))); simp only [Act.put, List.setIfInBounds_toArray, List.set_cons_zero, List.set_cons_succ]) | (refine sskip rfl rfl ?_; simp only [Act.put, List.setIfInBounds_toArray, List.set_cons_zero, List.set_cons_succ]))
      refine scall rfl rfl (fun K hK => ?_)
      go_simp
      refine (rfields_any x.op _).mono ?_; rintro e w10 ⟨rfl, b10⟩
      go_wp2_with fail
      refine hK.out _ _ (by exact (by rw [← b10]; exact Below.refl _ _)) ?_
      clear hK K
      try simp only [Act.put, List.setIfInBounds_toArray, List.set_cons_zero, List.set_cons_succ]
      replace qx := fun (W : World) (hW : Grow w10 W) => qx W (Grow.trans ((by rw [← b10]; exact Below.refl _ _)) hW)
      replace qy := fun (W : World) (hW : Grow w10 W) => qy W (Grow.trans ((by rw [← b10]; exact Below.refl _ _)) hW)
      replace qz := fun (W : World) (hW : Grow w10 W) => qz W (Grow.trans ((by rw [← b10]; exact Below.refl _ _)) hW)
      subst b10
      generalize fieldsI x.op = nf
      repeat (first | (refine sreadx rfl rfl ?_; apply Exists.intro; apply And.intro; (· (intro W hW; first | (go_simp; done) | (go_simp; with_reducible rfl) | (go_simp; rw [if_neg (by omega)]; done) | (go_simp; rw [if_neg (by omega)]; with_reducible rfl))); simp only [Act.put, List.setIfInBounds_toArray, List.set_cons_zero, List.set_cons_succ]) | (refine sskip rfl rfl ?_; simp only [Act.put, List.setIfInBounds_toArray, List.set_cons_zero, List.set_cons_succ]))
      refine scall rfl rfl (fun K hK => ?_)
      go_simp
      refine (clives_any _).mono ?_; rintro e w11 ⟨rfl, b11⟩
      go_wp2_with fail
      refine hK.out _ _ (by exact b11) ?_
      clear hK K
      try simp only [Act.put, List.setIfInBounds_toArray, List.set_cons_zero, List.set_cons_succ]
      repeat (first | (refine sreadx rfl rfl ?_; apply Exists.intro; apply And.intro; (· (intro W hW; first | (go_simp; done) | (go_simp; with_reducible rfl) | (go_simp; rw [if_neg (by omega)]; done) | (go_simp; rw [if_neg (by omega)]; with_reducible rfl))); simp only [Act.put, List.setIfInBounds_toArray, List.set_cons_zero, List.set_cons_succ]) | (refine sskip rfl rfl ?_; simp only [Act.put, List.setIfInBounds_toArray, List.set_cons_zero, List.set_cons_succ]))
      refine sdone ?_
      go_wp2_with fail
      go_ret
      exact ⟨rfl, (HX5.out.next (bthen B7 b11)).2⟩
  · unfold insV insC
    go_enter Try.func3, Try.ntmps3
    go_wp2_with fail
    refine (light_any x _ (by omega)).mono ?_; rintro e w1 ⟨rfl, b1⟩
    rw [show decide ((x.v.s.length : Int) ≤ 100) = false by simp; omega]
    have B1 : Below w.heap.size w w1 := bthen (by repeat (first | exact Below.refl _ _ | refine Below.alloc ?_ (by simp <;> omega) _)) b1
    go_wp2_with fail
    refine (clives_any _).mono ?_; rintro e w2 ⟨rfl, b2⟩
    go_wp2_with fail
    go_ret
    exact ⟨rfl, bthen B1 b2⟩
end Go.Proofs.Ytpodniljpinigaa.codeLines
