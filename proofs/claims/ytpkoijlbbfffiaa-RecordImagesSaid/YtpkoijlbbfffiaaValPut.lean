/- The contracts of slices.Clone at bytes, value.Put and the reference's Bytes. -/
import Derived.Test.YtpkoijlbbfffiaaValFns2
import Derived.Test.YtpkoijlbbfffiaaOctPut2
import Derived.Test.YtpkoijlbbfffiaaOctRef
import Derived.Test.YtpkoijlbbfffiaaSchedP
import Derived.Lib.SliceRun
namespace Go.Proofs.Ytpkoijlbbfffiaa.V
open Go.RowKit O

theorem own_lit0 (w : World) {base e b : Nat} (hb : b = w.heap.size) (hB : base ≤ b) : (w.alloc (.cells #[] e)).ownsRow base e 1 (.slice (some ⟨b, 0, none⟩) 0 0) 0 [] := by
  subst hb
  exact own_lit w [] hB (by simp)
theorem wp_app {P : Program} {w : World} {o : Oper} {a : Act} {K : Act → World → Prop} {Q : Exit → Act → World → Prop} (s x : Operand) {t e : TypeId} {size bytes : Nat} {z : Value}
    (hE : Elem P t e size bytes z) (ho : o.op = .call { callee := .builtin .append, args := #[s, x], argTypes := #[t, t] })
    (base : Nat) {A : Option Addr} {n c : Nat} (xs : List Value) (hs : a.eval s = .slice A n c) (hown : w.ownsRow base e size (.slice A n c) n xs)
    {m c' : Nat} {A' : Option Addr} (hx : a.eval x = .slice A' m c') {B : Nat} (news : List Value) (hr : Rd w B size A' m news) (h1 : ∀ u ∈ news, u.oneCell' = true)
    (h63 : n + m ≤ maxLen) (hlim : (n + m) * bytes ≤ 140737488355328) (hbase : base ≤ w.heap.size)
    (h : ∀ A2 c2 w', w'.ownsRow base e size (.slice A2 (n + m) c2) (n + m) (xs ++ news) → w.grownBy w' (Value.slice A n c).ownBlock →
      K (a.put o.dst (.slice A2 (n + m) c2)) w') : o.wp P a w K Q := by
  obtain ⟨A2, c2, w', hrun, h2, h3, h4⟩ := run_app (P := P) w hE o.type base hown (c' := c') hr h1 h63 hlim hbase
  unfold Oper.wp execOp
  simp only [ho, resolve, invoke, builtin, Sem.run_bind, Sem.run_pure, Result.andThen_ok, List.map_toArray, List.map_cons, List.map_nil, hs, hx, hrun]
  exact h A2 c2 w' h2 h3
set_option maxRecDepth 100000 in
set_option maxHeartbeats 1000000 in
theorem clone_any (A : Option Addr) (n c : Nat) (l : List UInt8) (w : World) (h : Rd w w.heap.size 1 A n (bv l)) (hn : n ≤ 140737488355300) (hnil : A = none → n = 0) :
    Calls Try.prog 65 #[.slice A n c] w (RetB l w) := by
  have hl : l.length = n := by have := h.1; simp at this; omega
  subst hl
  have q22 : ∀ (w : World) (a : Option Addr) (n c n' c' : Nat), (binOp .eql 28 (.slice a n c) (.slice none n' c')).run Try.prog w = .ok (.bool a.isNone) w := fun w a n c n' c' => Lib.run_eql_slice_nil w _ _ a n c n' c' Try.underlying28
  cases A with
  | none =>
    have h0 := hnil rfl
    obtain rfl : l = [] := List.eq_nil_of_length_eq_zero h0
    go_enter Try.func65, Try.ntmps65
    go_wp2_with fail
    go_ret
    exact ⟨none, 0, 0, rfl, ⟨rfl, .inl ⟨rfl, rfl⟩⟩, Below.refl _ _⟩
  | some q =>
    go_enter Try.func65, Try.ntmps65
    go_wp2_with (at_builtin; refine wpList_app rfl (.tmp 5) (.tmp 6) byteElem rfl w.heap.size [] rfl (own_lit0 w rfl (Nat.le_refl _)) rfl (bv l) (h.alloc (Nat.le_refl _) _) (bv_one _) (by unfold maxLen; omega) (by omega) (by simp) ?_; intro A5 c5 w5 hown hg _)
    go_ret
    rw [Nat.zero_add] at hown
    exact ⟨A5, _, c5, rfl, hown, below_app ((Below.refl _ _).alloc (Nat.le_refl _) _) (own_lit0 w rfl (Nat.le_refl _)) hg (by simp)⟩
theorem putV_no {v : Val} (h : right v = false) : putV v = [] := by rw [putV, h]; rfl
theorem putV_one {n : Int} {s : List UInt8} (h : right ⟨1, n, s⟩ = true) : putV ⟨1, n, s⟩ = [1] ++ uintL (zig n) := by rw [putV, if_pos h]; simp
theorem putV_two {n : Int} {s : List UInt8} (h : right ⟨2, n, s⟩ = true) : putV ⟨2, n, s⟩ = [2] ++ [UInt8.ofNat n.toNat] := by rw [putV, if_pos h]; simp
theorem putV_three {n : Int} {s : List UInt8} (h : right ⟨3, n, s⟩ = true) : putV ⟨3, n, s⟩ = [3] ++ textL s := by rw [putV, if_pos h]; simp
set_option maxRecDepth 100000 in
set_option maxHeartbeats 2000000 in
theorem put_one (A : Option Addr) (n c : Nat) (l : List UInt8) (m : Int) (s : List UInt8) (w : World) (h : Rd w w.heap.size 1 A n (bv l)) (hn : n ≤ 140737488300000) (hnil : A = none → n = 0) (hs : s.length ≤ 10000)
    (h1 : -9223372036854775808 ≤ m) (h2 : m ≤ 9223372036854775807) (hr : right ⟨1, m, s⟩ = true) :
    Calls Try.prog 17 #[.slice A n c, vv ⟨1, m, s⟩] w (RetB (l ++ putV ⟨1, m, s⟩) w) := by
  have hl : l.length = n := by have := h.1; simp at this; omega
  have hp := putV_one hr
  have Hhp := Lib.hid hp; clear hp
  simp only [vv]
  go_enter Try.func17, Try.ntmps17
  go_wp2_with fail
  refine (right_any ⟨1, m, s⟩ _ (show s.length ≤ _ by omega)).mono ?_; rintro e w1 ⟨rfl, b1⟩
  have B1 : Below w.heap.size w w1 := bthen (by repeat (first | exact Below.refl _ _ | refine Below.alloc ?_ (by simp <;> omega) _)) b1
  have x : w1.heap[w.heap.size]? = some (.cells #[.int .i64 1, .int .i64 m, .string ⟨s.toArray⟩] 23 (0, 0)) := box_next (by repeat (first | (refine alloc_at ?_; simp; done) | refine alloc_old' ?_)) b1
  have xc0 : w1.cell? ⟨w.heap.size, 0, none⟩ = some (.int .i64 1) := by rw [Lib.cell_of_heap x]; rfl
  have xf0 : w1.frozen? ⟨w.heap.size, 0, none⟩ = false := Lib.frozen_of_heap x 0
  have xc1 : w1.cell? ⟨w.heap.size, 1, none⟩ = some (.int .i64 m) := by rw [Lib.cell_of_heap x]; rfl
  have xf1 : w1.frozen? ⟨w.heap.size, 1, none⟩ = false := Lib.frozen_of_heap x 1
  have xc2 : w1.cell? ⟨w.heap.size, 2, none⟩ = some (.string ⟨s.toArray⟩) := by rw [Lib.cell_of_heap x]; rfl
  have xf2 : w1.frozen? ⟨w.heap.size, 2, none⟩ = false := Lib.frozen_of_heap x 2
  go_wp2_with fail
  refine wp_region_plan [w.heap.size] (.read 0 (.read 2 (.read 3 (.read 4 (.two 1 5 (.call 5 (.call 6 (.read 7 .done))) (.call 1 (.call 6 (.read 7 .done)))))))) (by kernel_rfl) (by kernel_rfl) (fun _ _ d _ _ h => by cases d <;> exact h) ?_
  have hlt := (Array.getElem?_eq_some_iff.1 x).1
  refine pwith (fun W hW => (show W.cell? ⟨w.heap.size, 0, none⟩ = some (.int .i64 1) by rw [Lib.cell_of_heap (hW.one (show w1.drew.heap[w.heap.size]? = _ from x))]; rfl)) (fun q => ?_)
  repeat (first | (refine sreadxP rfl rfl ?_; apply Exists.intro; apply And.intro; (· (intro W hW; first | (go_simp; done) | (go_simp; with_reducible rfl) | (go_simp; rw [if_neg (by omega)]; done) | (go_simp; rw [if_neg (by omega)]; with_reducible rfl))); simp only [Act.put, List.setIfInBounds_toArray, List.set_cons_zero, List.set_cons_succ]) | (refine pskip rfl rfl ?_; simp only [Act.put, List.setIfInBounds_toArray, List.set_cons_zero, List.set_cons_succ]))
  clear q
  have hk8 : IntKind.u8.wrap 1 = ((1 : Nat) : Int) := by decide
  try rw [hk8]
  clear hk8
  refine ptwo rfl rfl rfl rfl ?_ ?_
  · intro K hK
    go_simp
    refine (clone_any A n c l _ ((h.next B1).drew) (by omega) hnil).mono ?_; rintro e w2 ⟨A2, n2, c2, rfl, o2, b2⟩
    go_wp2_with fail
    refine hK.out _ _ (by exact KB.of_below b2 (by simpa using hlt)) ?_
    clear hK K
    try simp only [Act.put, List.setIfInBounds_toArray, List.set_cons_zero, List.set_cons_succ]
    have hn2 : n2 = n := by have := own_len o2; omega
    subst hn2
    have B2 : Below w.heap.size w w2 := bthen (B1.drew) b2
    have x2 := box_next (w := w1.drew) x b2
    refine pcall rfl rfl (fun K hK => ?_)
    go_simp
    refine hK.out _ _ (KB.of_below ((Below.refl _ _).alloc (Nat.le_refl _) _) (by simpa using Nat.lt_of_lt_of_le hlt b2.size)) ?_
    clear hK K
    try simp only [Act.put, List.setIfInBounds_toArray, List.set_cons_zero, List.set_cons_succ]
    refine pcall rfl rfl (fun K hK => ?_)
    refine wp_app (.tmp 12) (.tmp 16) byteElem rfl w1.heap.size (bv l) rfl (o2.alloc _) rfl [_] (Rd.built _ _ _) (by intro u hu; simp at hu; subst hu; rfl) (by unfold maxLen; omega) (by omega) (by simp; have := b2.size; simp at this; omega) ?_
    intro A5 c5 w5 o5 g5
    have hg5 : w.heap.size < w2.heap.size := Nat.lt_of_lt_of_le hlt b2.size
    have B5 : Below w.heap.size w w5 := below_app (base := w.heap.size) (B2.alloc (by omega) _) (own_more (o2.alloc _) (show w.heap.size ≤ w1.drew.heap.size from B1.size)) g5 (by simp; omega)
    have K5 : KB [w.heap.size] (w2.alloc (.cells #[.int .u8 1] 5)) w5 := fun b hb => by
      obtain rfl : b = w.heap.size := by simpa using hb
      refine g5.block _ (by simp; omega) fun e => ?_
      have := (o2.lt _ e.symm).1
      simp at this
      omega
    refine hK.out _ _ K5 ?_
    clear hK K
    try simp only [Act.put, List.setIfInBounds_toArray, List.set_cons_zero, List.set_cons_succ]
    have x5 : w5.heap[w.heap.size]? = some (.cells #[.int .i64 1, .int .i64 m, .string ⟨s.toArray⟩] 23 (0, 0)) := (K5 _ (by simp)).trans (alloc_old' x2)
    rw [bv_push l 1 1 (by omega) rfl] at o5
    have o5' := own_more o5 (show w.heap.size ≤ w1.drew.heap.size from B1.size)
    repeat (first | (refine sreadxP rfl rfl ?_; apply Exists.intro; apply And.intro; (· (intro W hW; first | (go_simp; done) | (go_simp; with_reducible rfl) | (go_simp; rw [if_neg (by omega)]; done) | (go_simp; rw [if_neg (by omega)]; with_reducible rfl))); simp only [Act.put, List.setIfInBounds_toArray, List.set_cons_zero, List.set_cons_succ]) | (refine pskip rfl rfl ?_; simp only [Act.put, List.setIfInBounds_toArray, List.set_cons_zero, List.set_cons_succ]))
    refine pdone ?_
    have x5c0 : w5.cell? ⟨w.heap.size, 0, none⟩ = some (.int .i64 1) := by rw [Lib.cell_of_heap x5]; rfl
    have x5c1 : w5.cell? ⟨w.heap.size, 1, none⟩ = some (.int .i64 m) := by rw [Lib.cell_of_heap x5]; rfl
    have x5c2 : w5.cell? ⟨w.heap.size, 2, none⟩ = some (.string ⟨s.toArray⟩) := by rw [Lib.cell_of_heap x5]; rfl
    clear x xc0 xc1 xc2 o5 g5 K5
    go_wp2_with fail
    refine (putInt_any A5 _ c5 m (l ++ [UInt8.ofNat 1]) _ (Rd.of_own o5') (by omega) h1 h2).mono ?_; rintro e w6 ⟨A6, n6, c6, rfl, o6, b6⟩
    go_wp2_with fail
    go_ret
    rw [Hhp.out, ← List.append_assoc]
    exact ⟨A6, n6, c6, rfl, own_more o6 B5.size, bthen B5 b6⟩
  · refine fun K hK => ?_
    go_simp
    refine hK.out _ _ (KB.of_below ((Below.refl _ _).alloc (Nat.le_refl _) _) (by simpa using hlt)) ?_
    clear hK K
    try simp only [Act.put, List.setIfInBounds_toArray, List.set_cons_zero, List.set_cons_succ]
    have Bx : Below w.heap.size w (w1.drew.alloc (.cells #[.int .u8 1] 5)) := (B1.drew).alloc (by simpa using B1.size) _
    have hbu := Rd.built w1.drew (.int .u8 1) 5
    refine pcall rfl rfl (fun K hK => ?_)
    go_simp
    refine (clone_any A n c l _ (h.next Bx) (by omega) hnil).mono ?_; rintro e w2 ⟨A2, n2, c2, rfl, o2, b2⟩
    go_wp2_with fail
    refine hK.out _ _ (by exact KB.of_below b2 (by simp; omega)) ?_
    clear hK K
    try simp only [Act.put, List.setIfInBounds_toArray, List.set_cons_zero, List.set_cons_succ]
    have hn2 : n2 = n := by have := own_len o2; omega
    subst hn2
    have B2 : Below w.heap.size w w2 := bthen Bx b2
    have x2 := box_next (w := w1.drew.alloc (.cells #[.int .u8 1] 5)) (alloc_old' (w := w1.drew) x) b2
    refine pcall rfl rfl (fun K hK => ?_)
    refine wp_app (.tmp 12) (.tmp 16) byteElem rfl w1.heap.size (bv l) rfl (own_more o2 (by simp)) rfl [_] (hbu.below (b2.mono (by simp))) (by intro u hu; simp at hu; subst hu; rfl) (by unfold maxLen; omega) (by omega) (by have := b2.size; simp at this; omega) ?_
    intro A5 c5 w5 o5 g5
    have hg5 : w.heap.size < w2.heap.size := by have := b2.size; simp at this; omega
    have B5 : Below w.heap.size w w5 := below_app (base := w.heap.size) B2 (own_more o2 (show w.heap.size ≤ _ by simp; have := B1.size; omega)) g5 (by omega)
    have K5 : KB [w.heap.size] w2 w5 := fun b hb => by
      obtain rfl : b = w.heap.size := by simpa using hb
      refine g5.block _ (by omega) fun e => ?_
      have := (o2.lt _ e.symm).1
      simp at this
      omega
    refine hK.out _ _ K5 ?_
    clear hK K
    try simp only [Act.put, List.setIfInBounds_toArray, List.set_cons_zero, List.set_cons_succ]
    have x5 : w5.heap[w.heap.size]? = some (.cells #[.int .i64 1, .int .i64 m, .string ⟨s.toArray⟩] 23 (0, 0)) := (K5 _ (by simp)).trans x2
    rw [bv_push l 1 1 (by omega) rfl] at o5
    have o5' := own_more o5 (show w.heap.size ≤ w1.heap.size from B1.size)
    repeat (first | (refine sreadxP rfl rfl ?_; apply Exists.intro; apply And.intro; (· (intro W hW; first | (go_simp; done) | (go_simp; with_reducible rfl) | (go_simp; rw [if_neg (by omega)]; done) | (go_simp; rw [if_neg (by omega)]; with_reducible rfl))); simp only [Act.put, List.setIfInBounds_toArray, List.set_cons_zero, List.set_cons_succ]) | (refine pskip rfl rfl ?_; simp only [Act.put, List.setIfInBounds_toArray, List.set_cons_zero, List.set_cons_succ]))
    refine pdone ?_
    have x5c0 : w5.cell? ⟨w.heap.size, 0, none⟩ = some (.int .i64 1) := by rw [Lib.cell_of_heap x5]; rfl
    have x5c1 : w5.cell? ⟨w.heap.size, 1, none⟩ = some (.int .i64 m) := by rw [Lib.cell_of_heap x5]; rfl
    have x5c2 : w5.cell? ⟨w.heap.size, 2, none⟩ = some (.string ⟨s.toArray⟩) := by rw [Lib.cell_of_heap x5]; rfl
    clear x xc0 xc1 xc2 o5 g5 K5
    go_wp2_with fail
    refine (putInt_any A5 _ c5 m (l ++ [UInt8.ofNat 1]) _ (Rd.of_own o5') (by omega) h1 h2).mono ?_; rintro e w6 ⟨A6, n6, c6, rfl, o6, b6⟩
    go_wp2_with fail
    go_ret
    rw [Hhp.out, ← List.append_assoc]
    exact ⟨A6, n6, c6, rfl, own_more o6 B5.size, bthen B5 b6⟩
set_option maxRecDepth 100000 in
set_option maxHeartbeats 2000000 in
theorem put_two (A : Option Addr) (n c : Nat) (l : List UInt8) (m : Int) (s : List UInt8) (w : World) (h : Rd w w.heap.size 1 A n (bv l)) (hn : n ≤ 140737488300000) (hnil : A = none → n = 0) (hs : s.length ≤ 10000)
    (h1 : -9223372036854775808 ≤ m) (h2 : m ≤ 9223372036854775807) (hr : right ⟨2, m, s⟩ = true) :
    Calls Try.prog 17 #[.slice A n c, vv ⟨2, m, s⟩] w (RetB (l ++ putV ⟨2, m, s⟩) w) := by
  have hl : l.length = n := by have := h.1; simp at this; omega
  have hp := putV_two hr
  have hm01 : m = 0 ∨ m = 1 := by rcases right_cases hr with ⟨e, _⟩ | ⟨_, _, e⟩ | ⟨e, _⟩ <;> simp_all
  have hm8 : IntKind.u8.wrap m = (m.toNat : Int) := by rcases hm01 with rfl | rfl <;> decide
  have hm9 : m.toNat < 256 := by omega
  have Hhp := Lib.hid hp; clear hp
  simp only [vv]
  go_enter Try.func17, Try.ntmps17
  go_wp2_with fail
  refine (right_any ⟨2, m, s⟩ _ (show s.length ≤ _ by omega)).mono ?_; rintro e w1 ⟨rfl, b1⟩
  have B1 : Below w.heap.size w w1 := bthen (by repeat (first | exact Below.refl _ _ | refine Below.alloc ?_ (by simp <;> omega) _)) b1
  have x : w1.heap[w.heap.size]? = some (.cells #[.int .i64 2, .int .i64 m, .string ⟨s.toArray⟩] 23 (0, 0)) := box_next (by repeat (first | (refine alloc_at ?_; simp; done) | refine alloc_old' ?_)) b1
  have xc0 : w1.cell? ⟨w.heap.size, 0, none⟩ = some (.int .i64 2) := by rw [Lib.cell_of_heap x]; rfl
  have xf0 : w1.frozen? ⟨w.heap.size, 0, none⟩ = false := Lib.frozen_of_heap x 0
  have xc1 : w1.cell? ⟨w.heap.size, 1, none⟩ = some (.int .i64 m) := by rw [Lib.cell_of_heap x]; rfl
  have xf1 : w1.frozen? ⟨w.heap.size, 1, none⟩ = false := Lib.frozen_of_heap x 1
  have xc2 : w1.cell? ⟨w.heap.size, 2, none⟩ = some (.string ⟨s.toArray⟩) := by rw [Lib.cell_of_heap x]; rfl
  have xf2 : w1.frozen? ⟨w.heap.size, 2, none⟩ = false := Lib.frozen_of_heap x 2
  go_wp2_with fail
  refine wp_region_plan [w.heap.size] (.read 0 (.read 2 (.read 3 (.read 4 (.two 1 5 (.call 5 (.call 6 (.read 7 .done))) (.call 1 (.call 6 (.read 7 .done)))))))) (by kernel_rfl) (by kernel_rfl) (fun _ _ d _ _ h => by cases d <;> exact h) ?_
  have hlt := (Array.getElem?_eq_some_iff.1 x).1
  refine pwith (fun W hW => (show W.cell? ⟨w.heap.size, 0, none⟩ = some (.int .i64 2) by rw [Lib.cell_of_heap (hW.one (show w1.drew.heap[w.heap.size]? = _ from x))]; rfl)) (fun q => ?_)
  repeat (first | (refine sreadxP rfl rfl ?_; apply Exists.intro; apply And.intro; (· (intro W hW; first | (go_simp; done) | (go_simp; with_reducible rfl) | (go_simp; rw [if_neg (by omega)]; done) | (go_simp; rw [if_neg (by omega)]; with_reducible rfl))); simp only [Act.put, List.setIfInBounds_toArray, List.set_cons_zero, List.set_cons_succ]) | (refine pskip rfl rfl ?_; simp only [Act.put, List.setIfInBounds_toArray, List.set_cons_zero, List.set_cons_succ]))
  clear q
  have hk8 : IntKind.u8.wrap 2 = ((2 : Nat) : Int) := by decide
  try rw [hk8]
  clear hk8
  refine ptwo rfl rfl rfl rfl ?_ ?_
  · intro K hK
    go_simp
    refine (clone_any A n c l _ ((h.next B1).drew) (by omega) hnil).mono ?_; rintro e w2 ⟨A2, n2, c2, rfl, o2, b2⟩
    go_wp2_with fail
    refine hK.out _ _ (by exact KB.of_below b2 (by simpa using hlt)) ?_
    clear hK K
    try simp only [Act.put, List.setIfInBounds_toArray, List.set_cons_zero, List.set_cons_succ]
    have hn2 : n2 = n := by have := own_len o2; omega
    subst hn2
    have B2 : Below w.heap.size w w2 := bthen (B1.drew) b2
    have x2 := box_next (w := w1.drew) x b2
    refine pcall rfl rfl (fun K hK => ?_)
    go_simp
    refine hK.out _ _ (KB.of_below ((Below.refl _ _).alloc (Nat.le_refl _) _) (by simpa using Nat.lt_of_lt_of_le hlt b2.size)) ?_
    clear hK K
    try simp only [Act.put, List.setIfInBounds_toArray, List.set_cons_zero, List.set_cons_succ]
    refine pcall rfl rfl (fun K hK => ?_)
    refine wp_app (.tmp 12) (.tmp 16) byteElem rfl w1.heap.size (bv l) rfl (o2.alloc _) rfl [_] (Rd.built _ _ _) (by intro u hu; simp at hu; subst hu; rfl) (by unfold maxLen; omega) (by omega) (by simp; have := b2.size; simp at this; omega) ?_
    intro A5 c5 w5 o5 g5
    have hg5 : w.heap.size < w2.heap.size := Nat.lt_of_lt_of_le hlt b2.size
    have B5 : Below w.heap.size w w5 := below_app (base := w.heap.size) (B2.alloc (by omega) _) (own_more (o2.alloc _) (show w.heap.size ≤ w1.drew.heap.size from B1.size)) g5 (by simp; omega)
    have K5 : KB [w.heap.size] (w2.alloc (.cells #[.int .u8 2] 5)) w5 := fun b hb => by
      obtain rfl : b = w.heap.size := by simpa using hb
      refine g5.block _ (by simp; omega) fun e => ?_
      have := (o2.lt _ e.symm).1
      simp at this
      omega
    refine hK.out _ _ K5 ?_
    clear hK K
    try simp only [Act.put, List.setIfInBounds_toArray, List.set_cons_zero, List.set_cons_succ]
    have x5 : w5.heap[w.heap.size]? = some (.cells #[.int .i64 2, .int .i64 m, .string ⟨s.toArray⟩] 23 (0, 0)) := (K5 _ (by simp)).trans (alloc_old' x2)
    rw [bv_push l 2 2 (by omega) rfl] at o5
    have o5' := own_more o5 (show w.heap.size ≤ w1.drew.heap.size from B1.size)
    repeat (first | (refine sreadxP rfl rfl ?_; apply Exists.intro; apply And.intro; (· (intro W hW; first | (go_simp; done) | (go_simp; with_reducible rfl) | (go_simp; rw [if_neg (by omega)]; done) | (go_simp; rw [if_neg (by omega)]; with_reducible rfl))); simp only [Act.put, List.setIfInBounds_toArray, List.set_cons_zero, List.set_cons_succ]) | (refine pskip rfl rfl ?_; simp only [Act.put, List.setIfInBounds_toArray, List.set_cons_zero, List.set_cons_succ]))
    refine pdone ?_
    have x5c0 : w5.cell? ⟨w.heap.size, 0, none⟩ = some (.int .i64 2) := by rw [Lib.cell_of_heap x5]; rfl
    have x5c1 : w5.cell? ⟨w.heap.size, 1, none⟩ = some (.int .i64 m) := by rw [Lib.cell_of_heap x5]; rfl
    have x5c2 : w5.cell? ⟨w.heap.size, 2, none⟩ = some (.string ⟨s.toArray⟩) := by rw [Lib.cell_of_heap x5]; rfl
    clear x xc0 xc1 xc2 o5 g5 K5
    have h5s := B5.size
    go_wp2_with (at_builtin; refine wpList_app rfl (.tmp 28) (.tmp 32) byteElem rfl w.heap.size (bv (l ++ [UInt8.ofNat 2])) rfl (o5'.alloc _) rfl [_] (Rd.built _ _ _) (by intro u hu; simp at hu; subst hu; rfl) (by unfold maxLen; omega) (by omega) (by simp; omega) ?_; intro A6 c6 w6 o6 g6 _)
    go_ret
    have B6 := below_app (B5.alloc B5.size _) (o5'.alloc _) g6 (by simp; omega)
    rw [Hhp.out, ← List.append_assoc]
    exact ⟨A6, _, c6, rfl, by rw [bv_push _ (max m 0) m.toNat hm9 (by omega)] at o6; exact o6, B6⟩
  · refine fun K hK => ?_
    go_simp
    refine hK.out _ _ (KB.of_below ((Below.refl _ _).alloc (Nat.le_refl _) _) (by simpa using hlt)) ?_
    clear hK K
    try simp only [Act.put, List.setIfInBounds_toArray, List.set_cons_zero, List.set_cons_succ]
    have Bx : Below w.heap.size w (w1.drew.alloc (.cells #[.int .u8 2] 5)) := (B1.drew).alloc (by simpa using B1.size) _
    have hbu := Rd.built w1.drew (.int .u8 2) 5
    refine pcall rfl rfl (fun K hK => ?_)
    go_simp
    refine (clone_any A n c l _ (h.next Bx) (by omega) hnil).mono ?_; rintro e w2 ⟨A2, n2, c2, rfl, o2, b2⟩
    go_wp2_with fail
    refine hK.out _ _ (by exact KB.of_below b2 (by simp; omega)) ?_
    clear hK K
    try simp only [Act.put, List.setIfInBounds_toArray, List.set_cons_zero, List.set_cons_succ]
    have hn2 : n2 = n := by have := own_len o2; omega
    subst hn2
    have B2 : Below w.heap.size w w2 := bthen Bx b2
    have x2 := box_next (w := w1.drew.alloc (.cells #[.int .u8 2] 5)) (alloc_old' (w := w1.drew) x) b2
    refine pcall rfl rfl (fun K hK => ?_)
    refine wp_app (.tmp 12) (.tmp 16) byteElem rfl w1.heap.size (bv l) rfl (own_more o2 (by simp)) rfl [_] (hbu.below (b2.mono (by simp))) (by intro u hu; simp at hu; subst hu; rfl) (by unfold maxLen; omega) (by omega) (by have := b2.size; simp at this; omega) ?_
    intro A5 c5 w5 o5 g5
    have hg5 : w.heap.size < w2.heap.size := by have := b2.size; simp at this; omega
    have B5 : Below w.heap.size w w5 := below_app (base := w.heap.size) B2 (own_more o2 (show w.heap.size ≤ _ by simp; have := B1.size; omega)) g5 (by omega)
    have K5 : KB [w.heap.size] w2 w5 := fun b hb => by
      obtain rfl : b = w.heap.size := by simpa using hb
      refine g5.block _ (by omega) fun e => ?_
      have := (o2.lt _ e.symm).1
      simp at this
      omega
    refine hK.out _ _ K5 ?_
    clear hK K
    try simp only [Act.put, List.setIfInBounds_toArray, List.set_cons_zero, List.set_cons_succ]
    have x5 : w5.heap[w.heap.size]? = some (.cells #[.int .i64 2, .int .i64 m, .string ⟨s.toArray⟩] 23 (0, 0)) := (K5 _ (by simp)).trans x2
    rw [bv_push l 2 2 (by omega) rfl] at o5
    have o5' := own_more o5 (show w.heap.size ≤ w1.heap.size from B1.size)
    repeat (first | (refine sreadxP rfl rfl ?_; apply Exists.intro; apply And.intro; (· (intro W hW; first | (go_simp; done) | (go_simp; with_reducible rfl) | (go_simp; rw [if_neg (by omega)]; done) | (go_simp; rw [if_neg (by omega)]; with_reducible rfl))); simp only [Act.put, List.setIfInBounds_toArray, List.set_cons_zero, List.set_cons_succ]) | (refine pskip rfl rfl ?_; simp only [Act.put, List.setIfInBounds_toArray, List.set_cons_zero, List.set_cons_succ]))
    refine pdone ?_
    have x5c0 : w5.cell? ⟨w.heap.size, 0, none⟩ = some (.int .i64 2) := by rw [Lib.cell_of_heap x5]; rfl
    have x5c1 : w5.cell? ⟨w.heap.size, 1, none⟩ = some (.int .i64 m) := by rw [Lib.cell_of_heap x5]; rfl
    have x5c2 : w5.cell? ⟨w.heap.size, 2, none⟩ = some (.string ⟨s.toArray⟩) := by rw [Lib.cell_of_heap x5]; rfl
    clear x xc0 xc1 xc2 o5 g5 K5
    have h5s := B5.size
    go_wp2_with (at_builtin; refine wpList_app rfl (.tmp 28) (.tmp 32) byteElem rfl w.heap.size (bv (l ++ [UInt8.ofNat 2])) rfl (o5'.alloc _) rfl [_] (Rd.built _ _ _) (by intro u hu; simp at hu; subst hu; rfl) (by unfold maxLen; omega) (by omega) (by simp; omega) ?_; intro A6 c6 w6 o6 g6 _)
    go_ret
    have B6 := below_app (B5.alloc B5.size _) (o5'.alloc _) g6 (by simp; omega)
    rw [Hhp.out, ← List.append_assoc]
    exact ⟨A6, _, c6, rfl, by rw [bv_push _ (max m 0) m.toNat hm9 (by omega)] at o6; exact o6, B6⟩
set_option maxRecDepth 100000 in
set_option maxHeartbeats 2000000 in
theorem put_three (A : Option Addr) (n c : Nat) (l : List UInt8) (m : Int) (s : List UInt8) (w : World) (h : Rd w w.heap.size 1 A n (bv l)) (hn : n ≤ 140737488300000) (hnil : A = none → n = 0) (hs : s.length ≤ 10000)
    (h1 : -9223372036854775808 ≤ m) (h2 : m ≤ 9223372036854775807) (hr : right ⟨3, m, s⟩ = true) :
    Calls Try.prog 17 #[.slice A n c, vv ⟨3, m, s⟩] w (RetB (l ++ putV ⟨3, m, s⟩) w) := by
  have hl : l.length = n := by have := h.1; simp at this; omega
  have hp := putV_three hr
  have Hhp := Lib.hid hp; clear hp
  simp only [vv]
  go_enter Try.func17, Try.ntmps17
  go_wp2_with fail
  refine (right_any ⟨3, m, s⟩ _ (show s.length ≤ _ by omega)).mono ?_; rintro e w1 ⟨rfl, b1⟩
  have B1 : Below w.heap.size w w1 := bthen (by repeat (first | exact Below.refl _ _ | refine Below.alloc ?_ (by simp <;> omega) _)) b1
  have x : w1.heap[w.heap.size]? = some (.cells #[.int .i64 3, .int .i64 m, .string ⟨s.toArray⟩] 23 (0, 0)) := box_next (by repeat (first | (refine alloc_at ?_; simp; done) | refine alloc_old' ?_)) b1
  have xc0 : w1.cell? ⟨w.heap.size, 0, none⟩ = some (.int .i64 3) := by rw [Lib.cell_of_heap x]; rfl
  have xf0 : w1.frozen? ⟨w.heap.size, 0, none⟩ = false := Lib.frozen_of_heap x 0
  have xc1 : w1.cell? ⟨w.heap.size, 1, none⟩ = some (.int .i64 m) := by rw [Lib.cell_of_heap x]; rfl
  have xf1 : w1.frozen? ⟨w.heap.size, 1, none⟩ = false := Lib.frozen_of_heap x 1
  have xc2 : w1.cell? ⟨w.heap.size, 2, none⟩ = some (.string ⟨s.toArray⟩) := by rw [Lib.cell_of_heap x]; rfl
  have xf2 : w1.frozen? ⟨w.heap.size, 2, none⟩ = false := Lib.frozen_of_heap x 2
  go_wp2_with fail
  refine wp_region_plan [w.heap.size] (.read 0 (.read 2 (.read 3 (.read 4 (.two 1 5 (.call 5 (.call 6 (.read 7 .done))) (.call 1 (.call 6 (.read 7 .done)))))))) (by kernel_rfl) (by kernel_rfl) (fun _ _ d _ _ h => by cases d <;> exact h) ?_
  have hlt := (Array.getElem?_eq_some_iff.1 x).1
  refine pwith (fun W hW => (show W.cell? ⟨w.heap.size, 0, none⟩ = some (.int .i64 3) by rw [Lib.cell_of_heap (hW.one (show w1.drew.heap[w.heap.size]? = _ from x))]; rfl)) (fun q => ?_)
  repeat (first | (refine sreadxP rfl rfl ?_; apply Exists.intro; apply And.intro; (· (intro W hW; first | (go_simp; done) | (go_simp; with_reducible rfl) | (go_simp; rw [if_neg (by omega)]; done) | (go_simp; rw [if_neg (by omega)]; with_reducible rfl))); simp only [Act.put, List.setIfInBounds_toArray, List.set_cons_zero, List.set_cons_succ]) | (refine pskip rfl rfl ?_; simp only [Act.put, List.setIfInBounds_toArray, List.set_cons_zero, List.set_cons_succ]))
  clear q
  have hk8 : IntKind.u8.wrap 3 = ((3 : Nat) : Int) := by decide
  try rw [hk8]
  clear hk8
  refine ptwo rfl rfl rfl rfl ?_ ?_
  · intro K hK
    go_simp
    refine (clone_any A n c l _ ((h.next B1).drew) (by omega) hnil).mono ?_; rintro e w2 ⟨A2, n2, c2, rfl, o2, b2⟩
    go_wp2_with fail
    refine hK.out _ _ (by exact KB.of_below b2 (by simpa using hlt)) ?_
    clear hK K
    try simp only [Act.put, List.setIfInBounds_toArray, List.set_cons_zero, List.set_cons_succ]
    have hn2 : n2 = n := by have := own_len o2; omega
    subst hn2
    have B2 : Below w.heap.size w w2 := bthen (B1.drew) b2
    have x2 := box_next (w := w1.drew) x b2
    refine pcall rfl rfl (fun K hK => ?_)
    go_simp
    refine hK.out _ _ (KB.of_below ((Below.refl _ _).alloc (Nat.le_refl _) _) (by simpa using Nat.lt_of_lt_of_le hlt b2.size)) ?_
    clear hK K
    try simp only [Act.put, List.setIfInBounds_toArray, List.set_cons_zero, List.set_cons_succ]
    refine pcall rfl rfl (fun K hK => ?_)
    refine wp_app (.tmp 12) (.tmp 16) byteElem rfl w1.heap.size (bv l) rfl (o2.alloc _) rfl [_] (Rd.built _ _ _) (by intro u hu; simp at hu; subst hu; rfl) (by unfold maxLen; omega) (by omega) (by simp; have := b2.size; simp at this; omega) ?_
    intro A5 c5 w5 o5 g5
    have hg5 : w.heap.size < w2.heap.size := Nat.lt_of_lt_of_le hlt b2.size
    have B5 : Below w.heap.size w w5 := below_app (base := w.heap.size) (B2.alloc (by omega) _) (own_more (o2.alloc _) (show w.heap.size ≤ w1.drew.heap.size from B1.size)) g5 (by simp; omega)
    have K5 : KB [w.heap.size] (w2.alloc (.cells #[.int .u8 3] 5)) w5 := fun b hb => by
      obtain rfl : b = w.heap.size := by simpa using hb
      refine g5.block _ (by simp; omega) fun e => ?_
      have := (o2.lt _ e.symm).1
      simp at this
      omega
    refine hK.out _ _ K5 ?_
    clear hK K
    try simp only [Act.put, List.setIfInBounds_toArray, List.set_cons_zero, List.set_cons_succ]
    have x5 : w5.heap[w.heap.size]? = some (.cells #[.int .i64 3, .int .i64 m, .string ⟨s.toArray⟩] 23 (0, 0)) := (K5 _ (by simp)).trans (alloc_old' x2)
    rw [bv_push l 3 3 (by omega) rfl] at o5
    have o5' := own_more o5 (show w.heap.size ≤ w1.drew.heap.size from B1.size)
    repeat (first | (refine sreadxP rfl rfl ?_; apply Exists.intro; apply And.intro; (· (intro W hW; first | (go_simp; done) | (go_simp; with_reducible rfl) | (go_simp; rw [if_neg (by omega)]; done) | (go_simp; rw [if_neg (by omega)]; with_reducible rfl))); simp only [Act.put, List.setIfInBounds_toArray, List.set_cons_zero, List.set_cons_succ]) | (refine pskip rfl rfl ?_; simp only [Act.put, List.setIfInBounds_toArray, List.set_cons_zero, List.set_cons_succ]))
    refine pdone ?_
    have x5c0 : w5.cell? ⟨w.heap.size, 0, none⟩ = some (.int .i64 3) := by rw [Lib.cell_of_heap x5]; rfl
    have x5c1 : w5.cell? ⟨w.heap.size, 1, none⟩ = some (.int .i64 m) := by rw [Lib.cell_of_heap x5]; rfl
    have x5c2 : w5.cell? ⟨w.heap.size, 2, none⟩ = some (.string ⟨s.toArray⟩) := by rw [Lib.cell_of_heap x5]; rfl
    clear x xc0 xc1 xc2 o5 g5 K5
    go_wp2_with fail
    refine (putText_any A5 _ c5 (l ++ [UInt8.ofNat 3]) s _ (Rd.of_own o5') (by omega)).mono ?_; rintro e w6 ⟨A6, n6, c6, rfl, o6, b6⟩
    go_wp2_with fail
    go_ret
    rw [Hhp.out, ← List.append_assoc]
    exact ⟨A6, n6, c6, rfl, own_more o6 B5.size, bthen B5 b6⟩
  · refine fun K hK => ?_
    go_simp
    refine hK.out _ _ (KB.of_below ((Below.refl _ _).alloc (Nat.le_refl _) _) (by simpa using hlt)) ?_
    clear hK K
    try simp only [Act.put, List.setIfInBounds_toArray, List.set_cons_zero, List.set_cons_succ]
    have Bx : Below w.heap.size w (w1.drew.alloc (.cells #[.int .u8 3] 5)) := (B1.drew).alloc (by simpa using B1.size) _
    have hbu := Rd.built w1.drew (.int .u8 3) 5
    refine pcall rfl rfl (fun K hK => ?_)
    go_simp
    refine (clone_any A n c l _ (h.next Bx) (by omega) hnil).mono ?_; rintro e w2 ⟨A2, n2, c2, rfl, o2, b2⟩
    go_wp2_with fail
    refine hK.out _ _ (by exact KB.of_below b2 (by simp; omega)) ?_
    clear hK K
    try simp only [Act.put, List.setIfInBounds_toArray, List.set_cons_zero, List.set_cons_succ]
    have hn2 : n2 = n := by have := own_len o2; omega
    subst hn2
    have B2 : Below w.heap.size w w2 := bthen Bx b2
    have x2 := box_next (w := w1.drew.alloc (.cells #[.int .u8 3] 5)) (alloc_old' (w := w1.drew) x) b2
    refine pcall rfl rfl (fun K hK => ?_)
    refine wp_app (.tmp 12) (.tmp 16) byteElem rfl w1.heap.size (bv l) rfl (own_more o2 (by simp)) rfl [_] (hbu.below (b2.mono (by simp))) (by intro u hu; simp at hu; subst hu; rfl) (by unfold maxLen; omega) (by omega) (by have := b2.size; simp at this; omega) ?_
    intro A5 c5 w5 o5 g5
    have hg5 : w.heap.size < w2.heap.size := by have := b2.size; simp at this; omega
    have B5 : Below w.heap.size w w5 := below_app (base := w.heap.size) B2 (own_more o2 (show w.heap.size ≤ _ by simp; have := B1.size; omega)) g5 (by omega)
    have K5 : KB [w.heap.size] w2 w5 := fun b hb => by
      obtain rfl : b = w.heap.size := by simpa using hb
      refine g5.block _ (by omega) fun e => ?_
      have := (o2.lt _ e.symm).1
      simp at this
      omega
    refine hK.out _ _ K5 ?_
    clear hK K
    try simp only [Act.put, List.setIfInBounds_toArray, List.set_cons_zero, List.set_cons_succ]
    have x5 : w5.heap[w.heap.size]? = some (.cells #[.int .i64 3, .int .i64 m, .string ⟨s.toArray⟩] 23 (0, 0)) := (K5 _ (by simp)).trans x2
    rw [bv_push l 3 3 (by omega) rfl] at o5
    have o5' := own_more o5 (show w.heap.size ≤ w1.heap.size from B1.size)
    repeat (first | (refine sreadxP rfl rfl ?_; apply Exists.intro; apply And.intro; (· (intro W hW; first | (go_simp; done) | (go_simp; with_reducible rfl) | (go_simp; rw [if_neg (by omega)]; done) | (go_simp; rw [if_neg (by omega)]; with_reducible rfl))); simp only [Act.put, List.setIfInBounds_toArray, List.set_cons_zero, List.set_cons_succ]) | (refine pskip rfl rfl ?_; simp only [Act.put, List.setIfInBounds_toArray, List.set_cons_zero, List.set_cons_succ]))
    refine pdone ?_
    have x5c0 : w5.cell? ⟨w.heap.size, 0, none⟩ = some (.int .i64 3) := by rw [Lib.cell_of_heap x5]; rfl
    have x5c1 : w5.cell? ⟨w.heap.size, 1, none⟩ = some (.int .i64 m) := by rw [Lib.cell_of_heap x5]; rfl
    have x5c2 : w5.cell? ⟨w.heap.size, 2, none⟩ = some (.string ⟨s.toArray⟩) := by rw [Lib.cell_of_heap x5]; rfl
    clear x xc0 xc1 xc2 o5 g5 K5
    go_wp2_with fail
    refine (putText_any A5 _ c5 (l ++ [UInt8.ofNat 3]) s _ (Rd.of_own o5') (by omega)).mono ?_; rintro e w6 ⟨A6, n6, c6, rfl, o6, b6⟩
    go_wp2_with fail
    go_ret
    rw [Hhp.out, ← List.append_assoc]
    exact ⟨A6, n6, c6, rfl, own_more o6 B5.size, bthen B5 b6⟩
set_option maxRecDepth 100000 in
set_option maxHeartbeats 1000000 in
theorem put_no (A : Option Addr) (n c : Nat) (l : List UInt8) (v : Val) (w : World) (h : Rd w w.heap.size 1 A n (bv l)) (hn : n ≤ 140737488300000) (hnil : A = none → n = 0) (hs : v.s.length ≤ 1000000000)
    (hr : right v = false) : Calls Try.prog 17 #[.slice A n c, vv v] w (RetB (l ++ putV v) w) := by
  obtain ⟨k, m, s⟩ := v
  simp only [vv]
  have hp := putV_no hr
  have hs' : (⟨k, m, s⟩ : Val).s.length ≤ 1000000000000 := by omega
  have Hhp := Lib.hid hp; clear hp
  go_enter Try.func17, Try.ntmps17
  go_wp2_with fail
  refine (right_any ⟨k, m, s⟩ _ hs').mono ?_; rintro e w1 ⟨rfl, b1⟩
  have B1 : Below w.heap.size w w1 := bthen (by repeat (first | exact Below.refl _ _ | refine Below.alloc ?_ (by simp <;> omega) _)) b1
  go_wp2_with fail
  refine (clone_any A n c l _ (h.next B1) (by omega) hnil).mono ?_; rintro e w2 ⟨A2, n2, c2, rfl, o2, b2⟩
  go_wp2_with fail
  go_ret
  rw [Hhp.out, List.append_nil]
  exact ⟨A2, n2, c2, rfl, own_more o2 B1.size, bthen B1 b2⟩
theorem put_any (A : Option Addr) (n c : Nat) (l : List UInt8) (v : Val) (w : World) (h : Rd w w.heap.size 1 A n (bv l)) (hn : n ≤ 140737488300000) (hnil : A = none → n = 0) (hs : v.s.length ≤ 10000)
    (h1 : -9223372036854775808 ≤ v.n) (h2 : v.n ≤ 9223372036854775807) :
    Calls Try.prog 17 #[.slice A n c, vv v] w (RetB (l ++ putV v) w) := by
  cases hr : right v
  · exact put_no A n c l v w h hn hnil (by omega) hr
  · obtain ⟨k, m, s⟩ := v
    have hk : k = 1 ∨ k = 2 ∨ k = 3 := by
      rcases right_cases hr with ⟨e, _⟩ | ⟨e, _⟩ | ⟨e, _⟩
      · exact .inl e
      · exact .inr (.inl e)
      · exact .inr (.inr e)
    rcases hk with rfl | rfl | rfl
    · exact put_one A n c l m s w h hn hnil hs h1 h2 hr
    · exact put_two A n c l m s w h hn hnil hs h1 h2 hr
    · exact put_three A n c l m s w h hn hnil hs h1 h2 hr
set_option maxRecDepth 100000 in
set_option maxHeartbeats 1000000 in
theorem rbytes_any (v : Val) (w : World) (hs : v.s.length ≤ 10000) (h1 : -9223372036854775808 ≤ v.n) (h2 : v.n ≤ 9223372036854775807) :
    Calls Try.prog 41 #[vv v] w (RetB (putV v) w) := by
  obtain ⟨k, m, s⟩ := v
  have hs' : (⟨k, m, s⟩ : Val).s.length ≤ 1000000000000 := by omega
  have hs2 : s.length ≤ 10000 := hs
  clear hs
  have h1' : -9223372036854775808 ≤ m := h1
  have h2' : m ≤ 9223372036854775807 := h2
  clear h1 h2
  simp only [vv]
  cases hr : right ⟨k, m, s⟩
  · have hp := putV_no hr
    have Hhp := Lib.hid hp; clear hp
    go_enter Try.func41, Try.ntmps41
    go_wp2_with fail
    refine (rright_any ⟨k, m, s⟩ _ hs').mono ?_; rintro e w1 ⟨rfl, b1⟩
    have B1 : Below w.heap.size w w1 := bthen (by repeat (first | exact Below.refl _ _ | refine Below.alloc ?_ (by simp <;> omega) _)) b1
    go_wp2_with fail
    go_ret
    rw [Hhp.out]
    exact ⟨none, 0, 0, rfl, ⟨rfl, .inl ⟨rfl, rfl⟩⟩, B1⟩
  · have hz := zig_lt m h1' h2'
    have hzl := uintL_len10 (zig m) (by omega)
    have hsl := uintL_len10 s.length (by omega)
    have htl : (textL s).length = (uintL s.length).length + s.length := by simp [textL]
    rcases (show k = 1 ∨ k = 2 ∨ k = 3 by rcases right_cases hr with ⟨e, _⟩ | ⟨e, _⟩ | ⟨e, _⟩ <;> simp_all) with rfl | rfl | rfl
    · have hp := putV_one hr
      have Hhp := Lib.hid hp; clear hp
      go_enter Try.func41, Try.ntmps41
      go_wp2_with fail
      refine (rright_any ⟨1, m, s⟩ _ hs').mono ?_; rintro e w1 ⟨rfl, b1⟩
      have B1 : Below w.heap.size w w1 := bthen (by repeat (first | exact Below.refl _ _ | refine Below.alloc ?_ (by simp <;> omega) _)) b1
      have x : w1.heap[w.heap.size]? = some (.cells #[.int .i64 1, .int .i64 m, .string ⟨s.toArray⟩] 23 (0, 0)) := box_next (by repeat (first | (refine alloc_at ?_; simp; done) | refine alloc_old' ?_)) b1
      have xc0 : w1.cell? ⟨w.heap.size, 0, none⟩ = some (.int .i64 1) := by rw [Lib.cell_of_heap x]; rfl
      have xf0 : w1.frozen? ⟨w.heap.size, 0, none⟩ = false := Lib.frozen_of_heap x 0
      have xc1 : w1.cell? ⟨w.heap.size, 1, none⟩ = some (.int .i64 m) := by rw [Lib.cell_of_heap x]; rfl
      have xf1 : w1.frozen? ⟨w.heap.size, 1, none⟩ = false := Lib.frozen_of_heap x 1
      have xc2 : w1.cell? ⟨w.heap.size, 2, none⟩ = some (.string ⟨s.toArray⟩) := by rw [Lib.cell_of_heap x]; rfl
      have xf2 : w1.frozen? ⟨w.heap.size, 2, none⟩ = false := Lib.frozen_of_heap x 2
      have hlt := (Array.getElem?_eq_some_iff.1 x).1
      go_wp2_with fail
      refine (refInt m _ h1' h2').mono ?_; rintro e w2 ⟨A2, n2, c2, rfl, o2, b2⟩
      have hn2 := own_len o2
      have ol : (w1.alloc (.cells #[.int .u8 1] 5)).ownsRow w.heap.size 5 1 (.slice (some ⟨w1.heap.size, 0, none⟩) 1 1) 1 (bv [1]) := own_lit w1 (bv [1]) (by omega) (by simp [maxLen])
      go_wp2_with (at_builtin; refine wpList_app rfl (.tmp 14) (.tmp 17) byteElem rfl w.heap.size (bv [1]) rfl (own_below ol b2) rfl (bv (uintL (zig m))) (Rd.of_own o2) (bv_one _) (by unfold maxLen; omega) (by omega) (by have := b2.size; simp at this; omega) ?_; intro A3 c3 w3 o3 g3 _)
      go_ret
      rw [Hhp.out, ← bv_append] at *
      exact ⟨A3, _, c3, rfl, o3, below_app (bthen (B1.alloc (by omega) _) b2) (own_below ol b2) g3 (by have := b2.size; simp at this; omega)⟩
    · have hp := putV_two hr
      have Hhp := Lib.hid hp; clear hp
      have hm01 : m = 0 ∨ m = 1 := by rcases right_cases hr with ⟨e, _⟩ | ⟨_, _, e⟩ | ⟨e, _⟩ <;> simp_all
      have hm8 : IntKind.u8.wrap m = (m.toNat : Int) := by rcases hm01 with rfl | rfl <;> decide
      have hm9 : m.toNat < 256 := by omega
      go_enter Try.func41, Try.ntmps41
      go_wp2_with fail
      refine (rright_any ⟨2, m, s⟩ _ hs').mono ?_; rintro e w1 ⟨rfl, b1⟩
      have B1 : Below w.heap.size w w1 := bthen (by repeat (first | exact Below.refl _ _ | refine Below.alloc ?_ (by simp <;> omega) _)) b1
      have x : w1.heap[w.heap.size]? = some (.cells #[.int .i64 2, .int .i64 m, .string ⟨s.toArray⟩] 23 (0, 0)) := box_next (by repeat (first | (refine alloc_at ?_; simp; done) | refine alloc_old' ?_)) b1
      have xc0 : w1.cell? ⟨w.heap.size, 0, none⟩ = some (.int .i64 2) := by rw [Lib.cell_of_heap x]; rfl
      have xf0 : w1.frozen? ⟨w.heap.size, 0, none⟩ = false := Lib.frozen_of_heap x 0
      have xc1 : w1.cell? ⟨w.heap.size, 1, none⟩ = some (.int .i64 m) := by rw [Lib.cell_of_heap x]; rfl
      have xf1 : w1.frozen? ⟨w.heap.size, 1, none⟩ = false := Lib.frozen_of_heap x 1
      have xc2 : w1.cell? ⟨w.heap.size, 2, none⟩ = some (.string ⟨s.toArray⟩) := by rw [Lib.cell_of_heap x]; rfl
      have xf2 : w1.frozen? ⟨w.heap.size, 2, none⟩ = false := Lib.frozen_of_heap x 2
      have hlt := (Array.getElem?_eq_some_iff.1 x).1
      have ol : (w1.alloc (.cells #[.int .u8 2] 5)).ownsRow w.heap.size 5 1 (.slice (some ⟨w1.heap.size, 0, none⟩) 1 1) 1 (bv [2]) := own_lit w1 (bv [2]) (by omega) (by simp [maxLen])
      have hbu : Rd ((w1.alloc (.cells #[.int .u8 2] 5)).alloc (.cells #[.int .u8 (max m 0)] 5)) (w1.heap.size + 1 + 1) 1 (some ⟨w1.heap.size + 1, 0, none⟩) 1 [.int .u8 (max m 0)] := by simpa using Rd.built (w1.alloc (.cells #[.int .u8 2] 5)) (.int .u8 (max m 0)) 5
      go_wp2_with (at_builtin; (refine wpList_app rfl (.tmp 22) (.tmp 26) byteElem rfl w.heap.size (bv [2]) rfl (ol.alloc _) rfl [.int .u8 (max m 0)] hbu (by intro u hu; simp at hu; subst hu; rfl) (by unfold maxLen; omega) (by omega) (by simp; omega) ?_; intro A3 c3 w3 o3 g3 _))
      go_ret
      have B3 := below_app (((B1.alloc (by omega) _)).alloc (by simp; omega) _) (ol.alloc _) g3 (by simp; omega)
      rw [Hhp.out]
      exact ⟨A3, _, c3, rfl, by rw [bv_push _ (max m 0) m.toNat hm9 (by omega)] at o3; exact o3, B3⟩
    · have hp := putV_three hr
      have Hhp := Lib.hid hp; clear hp
      go_enter Try.func41, Try.ntmps41
      go_wp2_with fail
      refine (rright_any ⟨3, m, s⟩ _ hs').mono ?_; rintro e w1 ⟨rfl, b1⟩
      have B1 : Below w.heap.size w w1 := bthen (by repeat (first | exact Below.refl _ _ | refine Below.alloc ?_ (by simp <;> omega) _)) b1
      have x : w1.heap[w.heap.size]? = some (.cells #[.int .i64 3, .int .i64 m, .string ⟨s.toArray⟩] 23 (0, 0)) := box_next (by repeat (first | (refine alloc_at ?_; simp; done) | refine alloc_old' ?_)) b1
      have xc0 : w1.cell? ⟨w.heap.size, 0, none⟩ = some (.int .i64 3) := by rw [Lib.cell_of_heap x]; rfl
      have xf0 : w1.frozen? ⟨w.heap.size, 0, none⟩ = false := Lib.frozen_of_heap x 0
      have xc1 : w1.cell? ⟨w.heap.size, 1, none⟩ = some (.int .i64 m) := by rw [Lib.cell_of_heap x]; rfl
      have xf1 : w1.frozen? ⟨w.heap.size, 1, none⟩ = false := Lib.frozen_of_heap x 1
      have xc2 : w1.cell? ⟨w.heap.size, 2, none⟩ = some (.string ⟨s.toArray⟩) := by rw [Lib.cell_of_heap x]; rfl
      have xf2 : w1.frozen? ⟨w.heap.size, 2, none⟩ = false := Lib.frozen_of_heap x 2
      have hlt := (Array.getElem?_eq_some_iff.1 x).1
      go_wp2_with fail
      refine (refText s _ (by omega)).mono ?_; rintro e w2 ⟨A2, n2, c2, rfl, o2, b2⟩
      have hn2 := own_len o2
      have ol : (w1.alloc (.cells #[.int .u8 3] 5)).ownsRow w.heap.size 5 1 (.slice (some ⟨w1.heap.size, 0, none⟩) 1 1) 1 (bv [3]) := own_lit w1 (bv [3]) (by omega) (by simp [maxLen])
      go_wp2_with (at_builtin; refine wpList_app rfl (.tmp 28) (.tmp 31) byteElem rfl w.heap.size (bv [3]) rfl (own_below ol b2) rfl (bv (textL s)) (Rd.of_own o2) (bv_one _) (by unfold maxLen; omega) (by omega) (by have := b2.size; simp at this; omega) ?_; intro A3 c3 w3 o3 g3 _)
      go_ret
      rw [Hhp.out, ← bv_append] at *
      exact ⟨A3, _, c3, rfl, o3, below_app (bthen (B1.alloc (by omega) _) b2) (own_below ol b2) g3 (by have := b2.size; simp at this; omega)⟩
end Go.Proofs.Ytpkoijlbbfffiaa.V
