/- The contract of billhookref23.RightImage. -/
/- The contract of billhookref23.PutImage. -/
import Derived.Test.YtpkoijlbbfffiaaImgMem
import Derived.Test.YtpkoijlbbfffiaaSchedApp
import Derived.Test.YtpkoijlbbfffiaaImgGet
namespace Go.Proofs.Ytpkoijlbbfffiaa.R
open Go.RowKit O V

def okI (x : Ins) : Bool := [x.id, x.proc, x.piece, x.fin].all okN && (okR x.emits && okR x.locals)
def rightImg (m : Img) : Bool := m.insts.all okI && (m.rows.all okG && m.order.all okN)
/-- Texts short enough to be looked at. -/
structure ShortM (m : Img) : Prop where
  r : ∀ x ∈ m.rows, ∀ v ∈ x.row, v.s.length ≤ 1000000000000
  i : ∀ x ∈ m.insts, (∀ v ∈ x.emits, v.s.length ≤ 1000000000000) ∧ ∀ v ∈ x.locals, v.s.length ≤ 1000000000000
  o : m.order.length ≤ 1000
set_option maxHeartbeats 2000000 in
set_option maxRecDepth 100000 in
theorem rrightImage_any (m : Img) (s : IS) (w : World) (h : ImgAt w m s) (hsh : ShortM m) : Calls Try.prog 52 #[imv m s] w fun e w' => e = .returned (.bool (rightImg m)) ∧ Below w.heap.size w w' := by
  obtain ⟨tx, rows, insts, order⟩ := m
  have li := h.i.len
  have lo := h.o.len
  have ci := h.i.cap
  obtain ⟨sr, ⟨A2, n2, c2⟩, ⟨A3, n3, c3⟩⟩ := s
  dsimp only at li lo ci
  have hs3 := hsh.o
  dsimp only at hs3
  have HR := Lib.hid h
  have HS := Lib.hid hsh
  have HN : Hid (insts.all okI = false → rightImg ⟨tx, rows, insts, order⟩ = false) := Lib.hid (fun h => by unfold rightImg; dsimp only; rw [h]; rfl)
  have HY : Hid (insts.all okI = true → rightImg ⟨tx, rows, insts, order⟩ = (rows.all okG && order.all okN)) := Lib.hid (fun h => by unfold rightImg; dsimp only; rw [h]; rfl)
  have LI := Lib.hid li
  have hn3 : n3 ≤ 1000 := by omega
  clear h hsh li lo hs3
  generalize rightImg ⟨tx, rows, insts, order⟩ = res at *
  simp only [imv]
  have X0 : Hid (IBox w ⟨tx, rows, insts, order⟩ ⟨sr, ⟨A2, n2, c2⟩, ⟨A3, n3, c3⟩⟩ w.heap.size (w.alloc (.cells #[.string ⟨tx.toArray⟩, .slice sr.A sr.n sr.c, .slice A2 n2 c2, .slice A3 n3 c3] 76))) := Lib.hid ⟨alloc_at rfl, (Below.refl _ _).alloc (Nat.le_refl _) _⟩
  go_enter Try.func52, Try.ntmps52
  go_wp2_with fail
  go_loopw [4, 8] (fun _ i wr => ∃ k : Nat, k ≤ n2 ∧ i = .int .i64 k ∧ Hid ((insts.take k).all okI = true) ∧ IBox w ⟨tx, rows, insts, order⟩ ⟨sr, ⟨A2, n2, c2⟩, ⟨A3, n3, c3⟩⟩ w.heap.size wr) (fun _ i _ => n2 - (intOf i).toNat)
  case atStart => exact ⟨0, by omega, rfl, Lib.hid (by simp), X0.out⟩
  case round =>
    obtain ⟨k, hk, rfl, H, hX⟩ := hrel
    clear X0
    have hb := hX.2
    have hbs := hb.size
    have HX := Lib.hid hX
    clear hX
    by_cases hlt : k < n2
    · have hlt' : k < insts.length := by rw [LI.out]; exact hlt
      obtain ⟨b1, off, p, p', hA, hbl, hv, hw, _, hc⟩ := HR.out.i.at_ hlt'
      have hA : A2 = some ⟨b1, off, none⟩ := hA
      subst hA
      obtain ⟨⟨⟨c0, c1⟩, c2', c3'⟩, c4, c5⟩ := hc wr hb
      have hst := Lib.hid (allT_step hlt' H.out)
      have hno := Lib.hid (allT_no (p := okI) hlt')
      have hsi := HS.out.i insts[k] (List.getElem_mem hlt')
      have HSI := Lib.hid hsi
      have HVr := Lib.hid hv
      have HWr := Lib.hid hw
      clear hc hv hw hsi
      generalize insts[k] = x at *
      have Z0 : Hid (InsBox w x p p' wr.heap.size (wr.alloc (.cells #[.int .i64 x.id, .int .i64 x.proc, .int .i64 x.piece, .int .i64 x.fin, .slice p.A p.n p.c, .slice p'.A p'.n p'.c] 143))) := Lib.hid ⟨alloc_at rfl, hb.alloc hbs _⟩
      have hI : Hid (Rd ((wr.alloc (.cells #[.int .i64 x.id, .int .i64 x.proc, .int .i64 x.piece, .int .i64 x.fin, .slice p.A p.n p.c, .slice p'.A p'.n p'.c] 143)).alloc (.cells #[.int .i64 x.id, .int .i64 x.proc, .int .i64 x.piece, .int .i64 x.fin] 3)) _ 1 (some ⟨wr.heap.size + 1, 0, none⟩) 4 (ivz [x.id, x.proc, x.piece, x.fin])) := Lib.hid (by
        have := made1 (wr.alloc (.cells #[.int .i64 x.id, .int .i64 x.proc, .int .i64 x.piece, .int .i64 x.fin, .slice p.A p.n p.c, .slice p'.A p'.n p'.c] 143)) [x.id, x.proc, x.piece, x.fin] (b := wr.heap.size + 1) (by simp)
        exact this)
      have XX : Hid (∀ C W, Below wr.heap.size (wr.alloc C) W → IBox w ⟨tx, rows, insts, order⟩ ⟨sr, ⟨some ⟨b1, off, none⟩, n2, c2⟩, ⟨A3, n3, c3⟩⟩ w.heap.size W) := Lib.hid (fun C W b => HX.out.next (((Below.refl _ _).alloc (Nat.le_refl _) C).trans b))
      go_wp2_with fail
      refine (rrightNumbers_any _ 4 4 [x.id, x.proc, x.piece, x.fin] _ hI.out (by omega)).mono ?_; rintro e w1 ⟨rfl, rfl⟩
      have hm := Lib.hid ((Below.refl wr.heap.size (wr.alloc (.cells #[.int .i64 x.id, .int .i64 x.proc, .int .i64 x.piece, .int .i64 x.fin, .slice p.A p.n p.c, .slice p'.A p'.n p'.c] 143))).alloc (by simp) (.cells #[.int .i64 x.id, .int .i64 x.proc, .int .i64 x.piece, .int .i64 x.fin] 3))
      have Z1 := Lib.hid (Z0.out.next ((Below.refl _ _).alloc (Nat.le_refl _) (.cells #[.int .i64 x.id, .int .i64 x.proc, .int .i64 x.piece, .int .i64 x.fin] 3)))
      clear Z0 hI c0 c1 c2' c3' c4 c5
      cases q0 : [x.id, x.proc, x.piece, x.fin].all okN
      · have hno' := Lib.hid (hno.out (by unfold okI; rw [q0]; rfl))
        go_wp2_with fail
        go_ret
        exact ⟨by rw [HN.out hno'.out]; rfl, Z1.out.2⟩
      obtain ⟨⟨⟨c0, c1⟩, c2', c3'⟩, c4, c5⟩ := Z1.out.cells
      go_wp2_with fail
      refine (rrightValues_any p.A p.n p.c x.emits _ (HVr.out.next Z1.out.2) HSI.out.1).mono ?_; rintro e w2 ⟨rfl, b2⟩
      have Z2 := Lib.hid (Z1.out.next b2)
      have hm2 := Lib.hid (hm.out.trans (b2.mono (by simp; omega)))
      clear Z1 b2 c0 c1 c2' c3' c4 c5
      cases q1 : okR x.emits
      · have hno' := Lib.hid (hno.out (by unfold okI; rw [q0, q1]; rfl))
        go_wp2_with fail
        go_ret
        exact ⟨by rw [HN.out hno'.out]; rfl, Z2.out.2⟩
      obtain ⟨⟨⟨c0, c1⟩, c2', c3'⟩, c4, c5⟩ := Z2.out.cells
      go_wp2_with fail
      refine (rrightValues_any p'.A p'.n p'.c x.locals _ (HWr.out.next Z2.out.2) HSI.out.2).mono ?_; rintro e w3 ⟨rfl, b3⟩
      have Z3 := Lib.hid (Z2.out.next b3)
      have hm3 := Lib.hid (hm2.out.trans (b3.mono (by have := hm2.out.size; simp at this; omega)))
      clear Z2 b3 c0 c1 c2' c3' c4 c5 hm2
      cases q2 : okR x.locals
      · have hno' := Lib.hid (hno.out (by unfold okI; rw [q0, q1, q2]; rfl))
        go_wp2_with fail
        go_ret
        exact ⟨by rw [HN.out hno'.out]; rfl, Z3.out.2⟩
      have hst' := Lib.hid (hst.out.trans (show okI x = true by unfold okI; rw [q0, q1, q2]; rfl))
      have X3 := Lib.hid (XX.out _ _ hm3.out)
      go_wp2_with fail
      go_roundw
      case rel => exact ⟨k + 1, by omega, by go_num, hst', X3.out⟩
      case measure => simp [intOf]; omega
    · obtain rfl : k = n2 := by omega
      have hall := H.out
      rw [← LI.out, List.take_length] at hall
      have hr := Lib.hid (HY.out hall)
      clear hall
      obtain ⟨⟨x0, x1⟩, x2, x3⟩ := HX.out.cells
      go_wp2_with fail
      refine (rrightChanges_any sr.A sr.n sr.c rows _ (HR.out.next HX.out.2).r HS.out.r).mono ?_; rintro e w1 ⟨rfl, b1⟩
      have X1 := Lib.hid (HX.out.next b1)
      clear HX b1 x0 x1 x2 x3
      cases q0 : rows.all okG
      · go_wp2_with fail
        go_ret
        exact ⟨by rw [hr.out, q0]; rfl, X1.out.2⟩
      obtain ⟨⟨x0, x1⟩, x2, x3⟩ := X1.out.cells
      go_wp2_with fail
      refine (rrightNumbers_any A3 n3 c3 order _ (HR.out.next X1.out.2).o.1 hn3).mono ?_; rintro e w2 ⟨rfl, rfl⟩
      go_wp2_with fail
      go_ret
      exact ⟨by rw [hr.out, q0]; simp, X1.out.2⟩
end Go.Proofs.Ytpkoijlbbfffiaa.R
namespace Go.Proofs.Ytpkoijlbbfffiaa.R
open Go.RowKit O V

/-- The image's box, and the bytes so far. -/
structure PI (w : World) (m : Img) (s : IS) (A : Option Addr) (n c : Nat) (l : List UInt8) (W : World) : Prop where
  x : IBox w m s w.heap.size W
  o : W.ownsRow (w.heap.size + 1) 5 1 (.slice A n c) n (bv l)
section
variable {w W W' : World} {m : Img} {s : IS} {A A' : Option Addr} {n c n' c' : Nat} {l l2 : List UInt8}
theorem PI.lt (h : PI w m s A n c l W) : w.heap.size + 1 ≤ W.heap.size := (Array.getElem?_eq_some_iff.1 h.x.1).1
theorem PI.len (h : PI w m s A n c l W) : l.length = n := own_len h.o
theorem PI.call (h : PI w m s A n c l W) (b : Below W.heap.size W W') : PI w m s A n c l W' := ⟨h.x.next b, own_below h.o b⟩
theorem PI.app (h : PI w m s A n c l W) (o : W'.ownsRow (w.heap.size + 1) 5 1 (.slice A' n' c') n' (bv l ++ bv l2)) (g : W.grownBy W' (Value.slice A n c).ownBlock) : PI w m s A' n' c' (l ++ l2) W' :=
  ⟨⟨box_grown h.x.1 g (fun j hj => by have := (h.o.lt j hj).1; omega), h.x.2.grown g h.x.2.size (fun j hj => by have := (h.o.lt j hj).1; omega)⟩, by rw [bv_append]; exact o⟩
/-- .. and, beside them, an instance's box and its numbers. -/
structure PJ (w : World) (m : Img) (s : IS) (x : Ins) (e t : Sl) (g : Nat) (A : Option Addr) (n c : Nat) (l : List UInt8) (W : World) : Prop where
  p : PI w m s A n c l W
  bx : W.heap[g]? = some (.cells #[.int .i64 x.id, .int .i64 x.proc, .int .i64 x.piece, .int .i64 x.fin, .slice e.A e.n e.c, .slice t.A t.n t.c] 143 (0, 0))
  ba : W.heap[g + 1]? = some (.cells #[.int .i64 x.id, .int .i64 x.proc, .int .i64 x.piece, .int .i64 x.fin] 3 (0, 0))
  ne : ∀ j, (Value.slice A n c).ownBlock = some j → j ≠ g ∧ j ≠ g + 1
variable {x : Ins} {e t : Sl} {g : Nat}
theorem PJ.lt (h : PJ w m s x e t g A n c l W) : g + 1 < W.heap.size := (Array.getElem?_eq_some_iff.1 h.ba).1
theorem PJ.call (h : PJ w m s x e t g A n c l W) (b : Below W.heap.size W W') : PJ w m s x e t g A n c l W' := ⟨h.p.call b, box_next h.bx b, box_next h.ba b, h.ne⟩
theorem PJ.app (h : PJ w m s x e t g A n c l W) (o : W'.ownsRow (w.heap.size + 1) 5 1 (.slice A' n' c') n' (bv l ++ bv l2)) (gr : W.grownBy W' (Value.slice A n c).ownBlock)
    (r : (Value.slice A' n' c').ownBlock = (Value.slice A n c).ownBlock ∨ (Value.slice A' n' c').ownBlock = some W.heap.size) : PJ w m s x e t g A' n' c' (l ++ l2) W' :=
  ⟨h.p.app o gr, box_grown h.bx gr (fun j hj => (h.ne j hj).1), box_grown h.ba gr (fun j hj => (h.ne j hj).2), fun j hj => ⟨app_ne r (fun j hj => (h.ne j hj).1) (by have := h.lt; omega) j hj, app_ne r (fun j hj => (h.ne j hj).2) h.lt j hj⟩⟩
theorem PI.box (h : PI w m s A n c l W) (hg : g = W.heap.size) : PJ w m s x e t g A n c l ((W.alloc (.cells #[.int .i64 x.id, .int .i64 x.proc, .int .i64 x.piece, .int .i64 x.fin, .slice e.A e.n e.c, .slice t.A t.n t.c] 143)).alloc (.cells #[.int .i64 x.id, .int .i64 x.proc, .int .i64 x.piece, .int .i64 x.fin] 3)) := by
  subst hg
  refine ⟨h.call (((Below.refl _ _).alloc (Nat.le_refl _) _).alloc (by simp) _), alloc_old' (alloc_at rfl), alloc_at (by simp), fun j hj => ?_⟩
  have := (h.o.lt j hj).2
  constructor <;> omega
end
theorem insL_uL (x : Ins) : insL x = uL [x.id, x.proc, x.piece, x.fin] ++ (rowL x.emits ++ rowL x.locals) := by simp [insL, uL, numsL]
set_option maxHeartbeats 4000000 in
set_option maxRecDepth 100000 in
theorem rputImage_any (m : Img) (s : IS) (w : World) (h : ImgAt w m s) (hok : MOk m) : Calls Try.prog 55 #[imv m s] w (RetB (putImg m) w) := by
  obtain ⟨tx, rows, insts, order⟩ := m
  have l1 := textL_len hok.t
  have l2 := rowCL_len hok.r.1 hok.r.2
  have ht := hok.t
  have li := h.i.len
  have lo := h.o.len
  have li20 := hok.i.1
  have lo40 := hok.o.1
  have ci := h.i.cap
  have co := h.o.cap
  obtain ⟨sr, ⟨A2, n2, c2⟩, ⟨A3, n3, c3⟩⟩ := s
  dsimp only at l1 l2 ht li lo li20 lo40 ci co
  have hu2 := uintL_len10 n2 (by omega)
  have hu3 := uintL_len10 n3 (by omega)
  have hn2 : n2 ≤ 20 := by omega
  have hn3 : n3 ≤ 40 := by omega
  have LI := Lib.hid li
  have LO := Lib.hid lo
  have hpl : ∀ k, (putIns (insts.take k)).length ≤ 802000 := fun k => by
    have := putIns_len (insts.take k) (fun v hv => hok.i.2 v (List.mem_of_mem_take hv))
    have h2 : (insts.take k).length ≤ 20 := by simp; omega
    omega
  have hql : ∀ k, (uL (order.take k)).length ≤ 400 := fun k => by
    have := uL_len (order.take k) (fun v hv => (hok.o.2 v (List.mem_of_mem_take hv)).2)
    have h2 : (order.take k).length ≤ 40 := by simp; omega
    omega
  have HPL := Lib.hid hpl
  have HQL := Lib.hid hql
  have HR := Lib.hid h
  have HK := Lib.hid hok
  have hfin : Hid (putImg ⟨tx, rows, insts, order⟩ = (((textL tx ++ rowCL rows) ++ uintL n2) ++ putIns insts ++ uintL n3) ++ uL order) := Lib.hid (by unfold putImg rowIL rowNL; dsimp only; rw [li, lo]; simp [List.append_assoc])
  clear h hok li lo hpl hql li20 lo40
  simp only [imv]
  have X0 : Hid (IBox w ⟨tx, rows, insts, order⟩ ⟨sr, ⟨A2, n2, c2⟩, ⟨A3, n3, c3⟩⟩ w.heap.size (w.alloc (.cells #[.string ⟨tx.toArray⟩, .slice sr.A sr.n sr.c, .slice A2 n2 c2, .slice A3 n3 c3] 76))) := Lib.hid ⟨alloc_at rfl, (Below.refl _ _).alloc (Nat.le_refl _) _⟩
  go_enter Try.func55, Try.ntmps55
  go_wp2_with fail
  obtain ⟨W0, hW0⟩ : ∃ W0, (w.alloc (.cells #[.string ⟨tx.toArray⟩, .slice sr.A sr.n sr.c, .slice A2 n2 c2, .slice A3 n3 c3] 76)) = W0 := ⟨_, rfl⟩
  have hS0 : W0.heap.size = w.heap.size + 1 := by rw [← hW0]; simp
  rw [hW0] at X0 ⊢
  clear hW0
  refine wp_region_schedB [w.heap.size] [(0, true), (1, true), (3, true), (4, true), (2, false), (5, false), (6, false), (7, true)] (by kernel_rfl) (by kernel_rfl) (fun _ _ d _ _ h => by cases d <;> exact h) ?_
  refine bwith (fun W hW => (cells4 (hW.one X0.out.1))) (fun q => ?_)
  repeat (first | (refine sreadxB rfl rfl ?_; apply Exists.intro; apply And.intro; (· (intro W hW; first | (go_simp; done) | (go_simp; with_reducible rfl) | (go_simp; rw [if_neg (by omega)]; done) | (go_simp; rw [if_neg (by omega)]; with_reducible rfl))); simp only [Act.put, List.setIfInBounds_toArray, List.set_cons_zero, List.set_cons_succ]) | (refine bskip rfl rfl ?_; simp only [Act.put, List.setIfInBounds_toArray, List.set_cons_zero, List.set_cons_succ]))
  refine bcall rfl rfl (fun K hK => ?_)
  go_simp
  refine (refText tx _ (by omega)).mono ?_; rintro e w1 ⟨A1, n1, c1, rfl, o1, b1⟩
  go_wp2_with fail
  refine hK.out _ _ (by exact KB.of_below b1 (fun k hk => by simp at hk; subst hk; simp; omega)) ?_
  clear hK K
  try simp only [Act.put, List.setIfInBounds_toArray, List.set_cons_zero, List.set_cons_succ]
  have X1 := Lib.hid ((X0.out.next (Below.refl _ _).drew).next b1)
  refine bwith (fun W hW => (cells4 (hW.one X1.out.1))) (fun q => ?_)
  repeat (first | (refine sreadxB rfl rfl ?_; apply Exists.intro; apply And.intro; (· (intro W hW; first | (go_simp; done) | (go_simp; with_reducible rfl) | (go_simp; rw [if_neg (by omega)]; done) | (go_simp; rw [if_neg (by omega)]; with_reducible rfl))); simp only [Act.put, List.setIfInBounds_toArray, List.set_cons_zero, List.set_cons_succ]) | (refine bskip rfl rfl ?_; simp only [Act.put, List.setIfInBounds_toArray, List.set_cons_zero, List.set_cons_succ]))
  refine bcall rfl rfl (fun K hK => ?_)
  go_simp
  refine (rchanges_any sr.A sr.n sr.c rows _ (HR.out.next X1.out.2).r HK.out.r.1 HK.out.r.2).mono ?_; rintro e w2 ⟨B2, m2, d2, rfl, o2, b2⟩
  go_wp2_with fail
  refine hK.out _ _ (by exact KB.of_below b2 (fun k hk => by simp at hk; subst hk; have := X1.out.1; exact (Array.getElem?_eq_some_iff.1 this).1)) ?_
  clear hK K
  try simp only [Act.put, List.setIfInBounds_toArray, List.set_cons_zero, List.set_cons_succ]
  have hn1 := own_len o1
  have hm2 := own_len o2
  have P2 : PI w ⟨tx, rows, insts, order⟩ ⟨sr, ⟨A2, n2, c2⟩, ⟨A3, n3, c3⟩⟩ A1 n1 c1 (textL tx) w2 := ⟨X1.out.next b2, own_more (own_below o1 b2) (by simp; omega)⟩
  repeat (first | (refine sreadxB rfl rfl ?_; apply Exists.intro; apply And.intro; (· (intro W hW; first | (go_simp; done) | (go_simp; with_reducible rfl) | (go_simp; rw [if_neg (by omega)]; done) | (go_simp; rw [if_neg (by omega)]; with_reducible rfl))); simp only [Act.put, List.setIfInBounds_toArray, List.set_cons_zero, List.set_cons_succ]) | (refine bskip rfl rfl ?_; simp only [Act.put, List.setIfInBounds_toArray, List.set_cons_zero, List.set_cons_succ]))
  refine bapp rfl rfl (.tmp 12) (.tmp 15) byteElem rfl (w.heap.size + 1) (bv (textL tx)) rfl P2.o rfl (bv (rowCL rows)) (Rd.of_own o2) (bv_one _) (by unfold maxLen; omega) (by omega) P2.lt (fun b hb => by simp at hb; omega) rfl rfl ?_
  intro B3 d3 w3 o3 g3
  have P3 := Lib.hid (P2.app o3 g3)
  try simp only [Act.put, List.setIfInBounds_toArray, List.set_cons_zero, List.set_cons_succ]
  repeat (first | (refine sreadxB rfl rfl ?_; apply Exists.intro; apply And.intro; (· (intro W hW; first | (go_simp; done) | (go_simp; with_reducible rfl) | (go_simp; rw [if_neg (by omega)]; done) | (go_simp; rw [if_neg (by omega)]; with_reducible rfl))); simp only [Act.put, List.setIfInBounds_toArray, List.set_cons_zero, List.set_cons_succ]) | (refine bskip rfl rfl ?_; simp only [Act.put, List.setIfInBounds_toArray, List.set_cons_zero, List.set_cons_succ]))
  refine bdone ?_
  clear q P2 X0 X1 o1 b1 o2 b2 o3 g3
  obtain ⟨N3, hN3⟩ : ∃ N, n1 + m2 = N := ⟨_, rfl⟩
  rw [hN3] at P3 ⊢
  have hN : N3 ≤ 500000 := by omega
  clear hN3
  obtain ⟨⟨x0, x1⟩, x2, x3⟩ := P3.out.x.cells
  go_wp2_with fail
  refine (num_any n2 _ (by omega)).mono ?_; rintro e w4 ⟨B4, m4, d4, rfl, o4, b4⟩
  have hm4 := own_len o4
  have P4 := Lib.hid (P3.out.call b4)
  have RD4 := Lib.hid (Rd.of_own o4)
  have hl4 := P4.out.lt
  clear P3 o4 b4 x0 x1 x2 x3
  go_wp2_with (
    at_builtin
    refine wpList_app rfl (.tmp 17) (.tmp 21) byteElem rfl (w.heap.size + 1) _ rfl (P4.out.o) rfl (bv (uintL n2)) (RD4.out) (bv_one _) (by unfold maxLen; omega) (by omega) (by first | omega | (simp; omega)) ?_
    intro B5 d5 w5 o5 g5 r5
    have P5 := Lib.hid (P4.out.app o5 g5)
    clear P4 o5 g5 RD4 hl4
    obtain ⟨⟨x0, x1⟩, x2, x3⟩ := P5.out.x.cells
    )
  clear x0 x1 x2 x3
  obtain ⟨P, hP⟩ : ∃ P, (textL tx ++ rowCL rows) ++ uintL n2 = P := ⟨_, rfl⟩
  rw [hP] at P5 hfin
  have hPl : P.length ≤ 500000 := by rw [← hP]; simp only [List.length_append]; omega
  clear hP
  go_loopw [3, 5, 7, 26] (fun v _ _ i wr => ∃ (k : Nat) (A1 : Option Addr) (n1 c1 : Nat), k ≤ n2 ∧ i = .int .i64 k ∧ v = .slice A1 n1 c1 ∧ PI w ⟨tx, rows, insts, order⟩ ⟨sr, ⟨A2, n2, c2⟩, ⟨A3, n3, c3⟩⟩ A1 n1 c1 (P ++ putIns (insts.take k)) wr) (fun _ _ _ i _ => n2 - (intOf i).toNat)
  case atStart => exact ⟨0, B5, _, d5, by omega, rfl, rfl, by simpa [putIns] using P5.out⟩
  case round =>
    obtain ⟨k, A1, n1, c1, hk, rfl, rfl, hP⟩ := hrel
    clear P5
    have hl1 := hP.len
    rw [List.length_append] at hl1
    have hpk := HPL.out k
    have hn1 : n1 ≤ 1302000 := by omega
    clear hl1 hpk
    by_cases hlt : k < n2
    · have hlt' : k < insts.length := by rw [LI.out]; exact hlt
      obtain ⟨b1, off, p, p', hA, hbl, hv, hw, _, hc⟩ := HR.out.i.at_ hlt'
      have hA : A2 = some ⟨b1, off, none⟩ := hA
      subst hA
      obtain ⟨⟨⟨c0, c1⟩, c2', c3'⟩, c4, c5⟩ := hc wr hP.x.2
      have hst := Lib.hid (putIns_step hlt')
      have HI := Lib.hid (HK.out.i.2 insts[k] (List.getElem_mem hlt'))
      have hil := insL_len insts[k] (HK.out.i.2 insts[k] (List.getElem_mem hlt'))
      have HVr := Lib.hid hv
      have HWr := Lib.hid hw
      clear hc hv hw
      generalize insts[k] = x at *
      have J0 := Lib.hid (hP.box (g := wr.heap.size) (x := x) (e := p) (t := p') rfl)
      clear hP
      go_wp2_with fail
      obtain ⟨W1, hW1⟩ : ∃ W1, ((wr.alloc (.cells #[.int .i64 x.id, .int .i64 x.proc, .int .i64 x.piece, .int .i64 x.fin, .slice p.A p.n p.c, .slice p'.A p'.n p'.c] 143)).alloc (.cells #[.int .i64 x.id, .int .i64 x.proc, .int .i64 x.piece, .int .i64 x.fin] 3)) = W1 := ⟨_, rfl⟩
      obtain ⟨gI, hgI⟩ : ∃ gI, wr.heap.size = gI := ⟨_, rfl⟩
      rw [hW1, hgI] at J0
      rw [hW1] at ⊢
      rw [hgI]
      clear hW1 hgI c0 c1 c2' c3' c4 c5
      obtain ⟨Q, hQ⟩ : ∃ Q, P ++ putIns (insts.take k) = Q := ⟨_, rfl⟩
      rw [hQ] at J0
      have HQ := Lib.hid hQ
      clear hQ
      obtain ⟨ns, hns⟩ : ∃ ns, [x.id, x.proc, x.piece, x.fin] = ns := ⟨_, rfl⟩
      have HN : Hid (∀ y ∈ ns, 0 ≤ y ∧ y ≤ 1073741824) := Lib.hid (by rw [← hns]; have := HI.out.n; simp; omega)
      have HNL : Hid (ns.length = 4) := Lib.hid (by rw [← hns]; rfl)
      have HNC : Hid (∀ W : World, ∀ j, (hj : j < ns.length) → W.heap[gI + 1]? = some (.cells #[.int .i64 x.id, .int .i64 x.proc, .int .i64 x.piece, .int .i64 x.fin] 3 (0, 0)) → W.cell? ⟨gI + 1, j, none⟩ = some (.int .i64 ns[j])) := Lib.hid (by
        intro W j hj hb
        subst hns
        obtain ⟨⟨q0, q1⟩, q2, q3⟩ := cells4 hb
        match j, hj with
        | 0, _ => exact q0
        | 1, _ => exact q1
        | 2, _ => exact q2
        | 3, _ => exact q3)
      have HNS := Lib.hid hns
      have hlen : ∀ k, (uL (ns.take k)).length ≤ 40 := fun k => by
        have := uL_len (ns.take k) (fun x hx => (HN.out x (List.mem_of_mem_take hx)).2)
        have h2 : (ns.take k).length ≤ 4 := by have := HNL.out; simp; omega
        omega
      have HLEN := Lib.hid hlen
      have hQl := J0.out.p.len
      have HQL2 := Lib.hid hQl
      clear hns hlen hQl
      go_loopw [3, 7, 40] (fun v _ i wj => ∃ (j : Nat) (A1 : Option Addr) (n1 c1 : Nat), j ≤ 4 ∧ i = .int .i64 j ∧ v = .slice A1 n1 c1 ∧ PJ w ⟨tx, rows, insts, order⟩ ⟨sr, ⟨some ⟨b1, off, none⟩, n2, c2⟩, ⟨A3, n3, c3⟩⟩ x p p' gI A1 n1 c1 (Q ++ uL (ns.take j)) wj) (fun _ _ i _ => 4 - (intOf i).toNat)
      case atStart => exact ⟨0, A1, n1, c1, by omega, rfl, rfl, by simpa [uL] using J0.out⟩
      case round =>
        obtain ⟨j, A6, n6, c6, hj, rfl, rfl, hJ⟩ := hrel
        clear J0
        have hl6 := hJ.p.len
        rw [List.length_append] at hl6
        have hlj := HLEN.out j
        have hn6 : n6 ≤ 1303000 := by have := HQL2.out; omega
        clear hl6 hlj
        have HJ := Lib.hid hJ
        clear hJ
        by_cases hlt4 : j < 4
        · have hlt4' : j < ns.length := by rw [HNL.out]; exact hlt4
          have hc0 := HNC.out wr j hlt4' HJ.out.ba
          have hst4 := Lib.hid (uL_step hlt4')
          obtain ⟨hu0, hu1⟩ := HN.out ns[j] (List.getElem_mem hlt4')
          generalize ns[j] = u at *
          have hu10 := uintL_len10 u.toNat (by omega)
          go_wp2_with fail
          refine (num_z u _ hu0 (by omega)).mono ?_; rintro e w7 ⟨A7, n7, c7, rfl, o7, b7⟩
          have hn7 := own_len o7
          have J7 := Lib.hid (HJ.out.call b7)
          have RD7 := Lib.hid (Rd.of_own o7)
          have hl7 := J7.out.p.lt
          clear o7 b7 HJ hc0
          go_wp2_with (
            at_builtin
            refine wpList_app rfl (.tmp 44) (.tmp 46) byteElem rfl (w.heap.size + 1) _ rfl (J7.out.p.o) rfl (bv (uintL u.toNat)) (RD7.out) (bv_one _) (by unfold maxLen; omega) (by omega) (by first | omega | (simp; omega)) ?_
            intro A8 c8 w8 o8 g8 r8
            )
          go_roundw
          case rel => exact ⟨j + 1, A8, _, c8, by omega, by go_num, rfl, by rw [hst4.out, ← List.append_assoc]; exact J7.out.app o8 g8 r8⟩
          case measure => simp [intOf]; omega
        · obtain rfl : j = 4 := by omega
          have htk : ns.take 4 = ns := by rw [← HNL.out, List.take_length]
          rw [htk] at HJ
          clear htk
          have hle := lightR_all HI.out.e
          have hll := lightR_all HI.out.l
          have hle2 := rowL_len hle.1 (fun v hv => ⟨HI.out.ve v hv, hle.2 v hv⟩)
          have hll2 := rowL_len hll.1 (fun v hv => ⟨HI.out.vl v hv, hll.2 v hv⟩)
          clear hle hll
          obtain ⟨⟨⟨c0, c1⟩, c2', c3'⟩, c4, c5⟩ := cells6 HJ.out.bx
          go_wp2_with fail
          refine (rvals_any p.A p.n p.c x.emits _ (HVr.out.next HJ.out.p.x.2) HI.out.e).mono ?_; rintro e w7 ⟨A7, n7, c7, rfl, o7, b7⟩
          have hn7 := own_len o7
          have J7 := Lib.hid (HJ.out.call b7)
          have RD7 := Lib.hid (Rd.of_own o7)
          have hl7 := J7.out.p.lt
          clear o7 b7 HJ c0 c1 c2' c3' c4 c5
          go_wp2_with (
            at_builtin
            refine wpList_app rfl (.tmp 49) (.tmp 52) byteElem rfl (w.heap.size + 1) _ rfl (J7.out.p.o) rfl (bv (rowL x.emits)) (RD7.out) (bv_one _) (by unfold maxLen; omega) (by omega) (by first | omega | (simp; omega)) ?_
            intro A8 c8 w8 o8 g8 r8
            have J8 := Lib.hid (J7.out.app o8 g8 r8)
            clear J7 RD7 o8 g8 r8 hl7
            obtain ⟨⟨⟨c0, c1⟩, c2', c3'⟩, c4, c5⟩ := cells6 J8.out.bx
            )
          refine (rvals_any p'.A p'.n p'.c x.locals _ (HWr.out.next J8.out.p.x.2) HI.out.l).mono ?_; rintro e w9 ⟨A9, n9, c9, rfl, o9, b9⟩
          have hn9 := own_len o9
          have J9 := Lib.hid (J8.out.call b9)
          have RD9 := Lib.hid (Rd.of_own o9)
          have hl9 := J9.out.p.lt
          clear o9 b9 J8 c0 c1 c2' c3' c4 c5
          go_wp2_with (
            at_builtin
            refine wpList_app rfl (.tmp 54) (.tmp 57) byteElem rfl (w.heap.size + 1) _ rfl (J9.out.p.o) rfl (bv (rowL x.locals)) (RD9.out) (bv_one _) (by unfold maxLen; omega) (by omega) (by first | omega | (simp; omega)) ?_
            intro Aa ca wa oa ga ra
            )
          go_roundw
          case rel =>
            have Ja := (J9.out.app oa ga ra).p
            refine ⟨k + 1, Aa, _, ca, by omega, by go_num, rfl, ?_⟩
            rw [hst.out, insL_uL, ← List.append_assoc, ← List.append_assoc, ← List.append_assoc, HQ.out, HNS.out]
            exact Ja
          case measure => simp [intOf]; omega
    · obtain rfl : k = n2 := by omega
      rw [← LI.out, List.take_length, LI.out] at hP
      have HP := Lib.hid hP
      clear hP
      obtain ⟨⟨x0, x1⟩, x2, x3⟩ := HP.out.x.cells
      go_wp2_with fail
      refine (num_any n3 _ (by omega)).mono ?_; rintro e w7 ⟨A7, n7, c7, rfl, o7, b7⟩
      have hn7 := own_len o7
      have J7 := Lib.hid (HP.out.call b7)
      have RD7 := Lib.hid (Rd.of_own o7)
      have hl7 := J7.out.lt
      clear o7 b7 HP x0 x1 x2 x3
      go_wp2_with (
        at_builtin
        refine wpList_app rfl (.tmp 60) (.tmp 64) byteElem rfl (w.heap.size + 1) _ rfl (J7.out.o) rfl (bv (uintL n3)) (RD7.out) (bv_one _) (by unfold maxLen; omega) (by omega) (by first | omega | (simp; omega)) ?_
        intro A8 c8 w8 o8 g8 r8
        have J8 := Lib.hid (J7.out.app o8 g8)
        clear J7 RD7 o8 g8 r8 hl7
        obtain ⟨⟨x0, x1⟩, x2, x3⟩ := J8.out.x.cells
        )
      obtain ⟨Q, hQ⟩ : ∃ Q, P ++ putIns insts ++ uintL n3 = Q := ⟨_, rfl⟩
      rw [hQ] at J8 hfin
      have hQl := J8.out.len
      have HQ := Lib.hid hQl
      clear hQ hQl x0 x1 x2 x3
      go_loopw [3, 9, 69] (fun v _ i wj => ∃ (j : Nat) (A1 : Option Addr) (n1 c1 : Nat), j ≤ n3 ∧ i = .int .i64 j ∧ v = .slice A1 n1 c1 ∧ PI w ⟨tx, rows, insts, order⟩ ⟨sr, ⟨A2, k, c2⟩, ⟨A3, n3, c3⟩⟩ A1 n1 c1 (Q ++ uL (order.take j)) wj) (fun _ _ i _ => n3 - (intOf i).toNat)
      case atStart => exact ⟨0, A8, _, c8, by omega, rfl, rfl, by simpa [uL] using J8.out⟩
      case round =>
        obtain ⟨j, A6, n6, c6, hj, rfl, rfl, hJ⟩ := hrel
        clear J8
        have hl6 := hJ.len
        rw [List.length_append] at hl6
        have hlj := HQL.out j
        have hn6 : n6 ≤ 1303000 := by have := HQ.out; omega
        clear hl6 hlj
        have HJ := Lib.hid hJ
        clear hJ
        by_cases hlt4 : j < n3
        · have hlt4' : j < order.length := by rw [LO.out]; exact hlt4
          obtain ⟨b2, off2, hA, hbl2, ho2, hc2⟩ := HR.out.o.at_ hlt4'
          have hA : A3 = some ⟨b2, off2, none⟩ := hA
          subst hA
          have hc0 := hc2 wr HJ.out.x.2
          have hst4 := Lib.hid (uL_step hlt4')
          obtain ⟨hu0, hu1⟩ := HK.out.o.2 order[j] (List.getElem_mem hlt4')
          clear hc2 ho2
          generalize order[j] = u at *
          have hu10 := uintL_len10 u.toNat (by omega)
          go_wp2_with fail
          refine (num_z u _ hu0 (by omega)).mono ?_; rintro e w7 ⟨A7, n7, c7, rfl, o7, b7⟩
          have hn7 := own_len o7
          have J7 := Lib.hid (HJ.out.call b7)
          have RD7 := Lib.hid (Rd.of_own o7)
          have hl7 := J7.out.lt
          clear o7 b7 HJ hc0
          go_wp2_with (
            at_builtin
            refine wpList_app rfl (.tmp 73) (.tmp 75) byteElem rfl (w.heap.size + 1) _ rfl (J7.out.o) rfl (bv (uintL u.toNat)) (RD7.out) (bv_one _) (by unfold maxLen; omega) (by omega) (by first | omega | (simp; omega)) ?_
            intro A8 c8 w8 o8 g8 r8
            )
          go_roundw
          case rel => exact ⟨j + 1, A8, _, c8, by omega, by go_num, rfl, by rw [hst4.out, ← List.append_assoc]; exact J7.out.app o8 g8⟩
          case measure => simp [intOf]; omega
        · obtain rfl : j = n3 := by omega
          have htk : order.take j = order := by rw [← LO.out, List.take_length]
          rw [htk] at HJ
          have hsz : w.heap.size ≤ w.heap.size + 1 := by omega
          clear htk
          go_wp2_with fail
          go_ret
          exact ⟨A6, n6, c6, rfl, by rw [hfin.out]; exact own_more HJ.out.o hsz, HJ.out.x.2⟩
end Go.Proofs.Ytpkoijlbbfffiaa.R
