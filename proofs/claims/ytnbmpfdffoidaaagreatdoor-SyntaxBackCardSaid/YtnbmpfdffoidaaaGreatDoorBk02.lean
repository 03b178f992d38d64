/- Texts of the proof, joined: SynMem, SynLaw, SynComp. -/
import Derived.Test.YtnbmpfdffoidaaaGreatDoorBk01
set_option linter.unusedVariables false
set_option linter.unusedSimpArgs false
set_option maxHeartbeats 8000000
set_option maxRecDepth 100000
namespace Go.Proofs.YtnbmpfdffoidaaaGreatDoor.Y
open Go.RowKit O V S
structure Mod (bs : List Nat) (w w' : World) : Prop where
 os : w'.os = w.os
 tape : w'.tape = w.tape
 output : w'.output = w.output
 size : w.heap.size ≤ w'.heap.size
 block : ∀ k, k < w.heap.size → k ∉ bs → w'.heap[k]? = w.heap[k]?
theorem Mod.refl (bs : List Nat) (w : World) : Mod bs w w := ⟨rfl, rfl, rfl, Nat.le_refl _, fun _ _ _ => rfl⟩
theorem Mod.trans {bs cs : List Nat} {a b c : World} (h : Mod bs a b) (k : Mod cs b c) (hs : ∀ x ∈ cs, x ∈ bs ∨ a.heap.size ≤ x) : Mod bs a c :=
 ⟨k.os.trans h.os, k.tape.trans h.tape, k.output.trans h.output, Nat.le_trans h.size k.size, fun i hi hn =>
  (k.block i (Nat.lt_of_lt_of_le hi h.size) (fun hx => (hs i hx).elim hn (fun e => by omega))).trans (h.block i hi hn)⟩
theorem Mod.then {bs : List Nat} {a b c : World} (h : Mod bs a b) (k : Mod bs b c) : Mod bs a c := h.trans k fun _ hx => .inl hx
theorem Mod.more {bs cs : List Nat} {a b : World} (h : Mod bs a b) (hs : ∀ x ∈ bs, x ∈ cs ∨ a.heap.size ≤ x) : Mod cs a b :=
 ⟨h.os, h.tape, h.output, h.size, fun i hi hn => h.block i hi (fun hx => (hs i hx).elim hn (fun e => by omega))⟩
theorem Mod.of_below {bs : List Nat} {a b : World} (h : Below a.heap.size a b) : Mod bs a b := ⟨h.os, h.tape, h.output, h.size, fun i hi _ => h.block i hi⟩
theorem Mod.below {bs : List Nat} {a b : World} (h : Mod bs a b) {B : Nat} (hB : B ≤ a.heap.size) (hs : ∀ x ∈ bs, B ≤ x) : Below B a b :=
 ⟨h.os, h.tape, h.output, h.size, fun k hk => h.block k (by omega) (fun hx => by have := hs k hx; omega)⟩
theorem Mod.alloc {bs : List Nat} {a w : World} (h : Mod bs a w) (o : Obj) : Mod bs a (w.alloc o) := h.then (.of_below ((Below.refl _ _).alloc (Nat.le_refl _) _))
theorem Mod.drew {bs : List Nat} {a w : World} (h : Mod bs a w) : Mod bs a w.drew := ⟨h.os, h.tape, h.output, h.size, h.block⟩
theorem Mod.set {bs : List Nat} {a w : World} (h : Mod bs a w) {b i : Nat} (hb : b ∈ bs ∨ a.heap.size ≤ b) (v : Value) : Mod bs a (w.setCell ⟨b, i, none⟩ v) :=
 h.trans (cs := [b]) ⟨rfl, rfl, rfl, by simp, fun i _ hi => Below.heap_setCell _ _ _ _ (fun e => hi (by simp [e]))⟩ (fun x hx => by simp at hx; rw [hx]; exact hb)
theorem Mod.grown {bs : List Nat} {a w w' : World} {row : Option Nat} (h : Mod bs a w) (hg : w.grownBy w' row) (hr : ∀ k, row = some k → k ∈ bs ∨ a.heap.size ≤ k) : Mod bs a w' :=
 ⟨hg.os.trans h.os, hg.tape.trans h.tape, hg.output.trans h.output, Nat.le_trans h.size hg.size, fun i hi hn =>
  (hg.block i (Nat.lt_of_lt_of_le hi h.size) (fun e => (hr i e.symm).elim hn (fun e => by omega))).trans (h.block i hi hn)⟩
theorem Mod.box {bs : List Nat} {w w' : World} {b : Nat} {o : Obj} (h : Mod bs w w') (hb : w.heap[b]? = some o) (hn : b ∉ bs) : w'.heap[b]? = some o :=
 (h.block b (Array.getElem?_eq_some_iff.1 hb).1 hn).trans hb
structure Row (w : World) (S : Nat → Prop) (size : Nat) (A : Option Addr) (n c : Nat) (xs : List Value) : Prop where
 len : xs.length = n * size
 cap : n ≤ c ∧ c ≤ 9223372036854775807
 pos : 0 < xs.length → ∃ b off, A = some ⟨b, off, none⟩ ∧ S b ∧ ∀ j, j < xs.length → w.cell? ⟨b, off + j, none⟩ = xs[j]?
section
variable {w w' : World} {S S' : Nat → Prop} {size n c : Nat} {A : Option Addr} {xs : List Value}
theorem Row.keep (h : Row w S size A n c xs) (hk : ∀ b, S b → w'.heap[b]? = w.heap[b]?) : Row w' S size A n c xs :=
 ⟨h.len, h.cap, fun hp => by
  obtain ⟨b, off, e, hb, hc⟩ := h.pos hp
  exact ⟨b, off, e, hb, fun j hj => (World.cell?_of_block (a := ⟨b, off + j, none⟩) (hk b hb)).trans (hc j hj)⟩⟩
theorem Row.mono (h : Row w S size A n c xs) (hs : ∀ b, S b → S' b) : Row w S' size A n c xs :=
 ⟨h.len, h.cap, fun hp => by
  obtain ⟨b, off, e, hb, hc⟩ := h.pos hp
  exact ⟨b, off, e, hs b hb, hc⟩⟩
theorem Row.rd (h : Row w S size A n c xs) {B : Nat} (hs : ∀ b, S b → b < B) : Rd w B size A n xs :=
 ⟨h.len, fun hp => by
  obtain ⟨b, off, e, hb, hc⟩ := h.pos hp
  exact ⟨b, off, e, hs b hb, hc⟩⟩
theorem Row.nil_ : Row w S size none 0 0 [] := ⟨by simp, by omega, fun h => absurd h (by simp)⟩
theorem Row.of_own {base : Nat} {e : TypeId} (h : w.ownsRow base e size (.slice A n c) n xs) (hS : ∀ g, (Value.slice A n c).ownBlock = some g → S g) : Row w S size A n c xs := by
 have hr := Rd.of_own h
 refine ⟨h.1, ?_, fun hp => ?_⟩
 ·rcases h.2 with ⟨hv, h0⟩ | ⟨g, cap, cur, hv, _, _, hnc, hcm, _⟩
  ·injection hv with _ _ hc
   omega
  ·injection hv with _ _ hc
   unfold maxLen at hcm
   omega
 ·obtain ⟨b, off, e, hb, hc⟩ := hr.2 hp
  exact ⟨b, off, e, hS b (by rw [e]; rfl), hc⟩
end
abbrev sv (s : List UInt8) : Value := .string ⟨s.toArray⟩
abbrev nv (n : Int) : Value := .int .i64 n
def hdK : Ex → Int
 | .val _ => 1
 | .var _ => 2
 | .cell _ _ _ => 3
 | .has _ _ => 4
 | .sum _ _ _ _ => 5
 | .cnt _ _ _ => 6
 | .un _ _ => 7
 | .bin _ _ _ => 8
def hdV : Ex → Val
 | .val v => v
 | _ => zv
def hdN : Ex → List UInt8
 | .var n => n
 | .cell n _ _ => n
 | .has n _ => n
 | .sum n _ _ _ => n
 | .cnt n _ _ => n
 | _ => []
def hdC : Ex → List UInt8
 | .cell _ c _ => c
 | .sum _ c _ _ => c
 | _ => []
def hdO : Ex → Nat
 | .un op _ => op
 | .bin op _ _ => op
 | _ => 0
def parts : Ex → List Ex
 | .cell _ _ k => [k]
 | .has _ k => [k]
 | .sum _ _ a b => [a, b]
 | .cnt _ a b => [a, b]
 | .un _ a => [a]
 | .bin _ a b => [a, b]
 | _ => []
theorem Ex.ind {P : Ex → Prop} (h : ∀ x, (∀ y ∈ parts x, P y) → P x) : ∀ x, P x
 | .val v => h _ (fun _ hy => by cases hy)
 | .var n => h _ (fun _ hy => by cases hy)
 | .cell n c k => h _ (fun y hy => by
  have := Ex.ind h k
  simp [parts] at hy; rw [hy]; exact this)
 | .has n k => h _ (fun y hy => by
  have := Ex.ind h k
  simp [parts] at hy; rw [hy]; exact this)
 | .sum n c a b => h _ (fun y hy => by
  have h1 := Ex.ind h a
  have h2 := Ex.ind h b
  simp [parts] at hy; rcases hy with e | e <;> rw [e] <;> assumption)
 | .cnt n a b => h _ (fun y hy => by
  have h1 := Ex.ind h a
  have h2 := Ex.ind h b
  simp [parts] at hy; rcases hy with e | e <;> rw [e] <;> assumption)
 | .un op a => h _ (fun y hy => by
  have := Ex.ind h a
  simp [parts] at hy; rw [hy]; exact this)
 | .bin op a b => h _ (fun y hy => by
  have h1 := Ex.ind h a
  have h2 := Ex.ind h b
  simp [parts] at hy; rcases hy with e | e <;> rw [e] <;> assumption)
def exC (x : Ex) (args : Value) (p q r : Int) : List Value :=
 [nv (hdK x), nv (hdV x).k, nv (hdV x).n, sv (hdV x).s, sv (hdN x), sv (hdC x), nv (hdO x : Nat), args, nv p, nv q, nv r]
def Nd (w : World) (S : Nat → Prop) (x : Ex) (n : Nat) (P : List Value → Prop) (vs : List Value) : Prop :=
 ∃ A c es p q r, vs = exC x (.slice A n c) p q r ∧ Row w S 11 A n c es ∧ P es
def ExR (w : World) (S : Nat → Prop) : Ex → List Value → Prop
 | .val v, vs => Nd w S (.val v) 0 (fun es => es = []) vs
 | .var n, vs => Nd w S (.var n) 0 (fun es => es = []) vs
 | .cell n c k, vs => Nd w S (.cell n c k) 1 (fun es => ∃ us ys, es = us ++ ys ∧ ExR w S k us ∧ ys = []) vs
 | .has n k, vs => Nd w S (.has n k) 1 (fun es => ∃ us ys, es = us ++ ys ∧ ExR w S k us ∧ ys = []) vs
 | .sum n c a b, vs => Nd w S (.sum n c a b) 2 (fun es => ∃ us ys, es = us ++ ys ∧ ExR w S a us ∧ ∃ us' zs, ys = us' ++ zs ∧ ExR w S b us' ∧ zs = []) vs
 | .cnt n a b, vs => Nd w S (.cnt n a b) 2 (fun es => ∃ us ys, es = us ++ ys ∧ ExR w S a us ∧ ∃ us' zs, ys = us' ++ zs ∧ ExR w S b us' ∧ zs = []) vs
 | .un op a, vs => Nd w S (.un op a) 1 (fun es => ∃ us ys, es = us ++ ys ∧ ExR w S a us ∧ ys = []) vs
 | .bin op a b, vs => Nd w S (.bin op a b) 2 (fun es => ∃ us ys, es = us ++ ys ∧ ExR w S a us ∧ ∃ us' zs, ys = us' ++ zs ∧ ExR w S b us' ∧ zs = []) vs
section
variable {w w' : World} {S S' : Nat → Prop}
theorem ExR_eq (x : Ex) (vs : List Value) : ExR w S x vs ↔ Nd w S x (parts x).length (Reps (ExR w S) (parts x)) vs := by
 cases x <;> exact Iff.rfl
theorem ExR.size : ∀ (x : Ex) (vs : List Value), ExR w S x vs → vs.length = 11 := fun x vs h => by
 obtain ⟨A, c, es, p, q, r, rfl, _⟩ := (ExR_eq x vs).1 h
 rfl
theorem reps_impM {α : Type} {rep rep' : α → List Value → Prop} : ∀ {l : List α} {xs : List Value}, (∀ a ∈ l, ∀ vs, rep a vs → rep' a vs) → Reps rep l xs → Reps rep' l xs
 | [], _, _, h => h
 | a :: _, _, hi, ⟨vs, ys, e, h, k⟩ => ⟨vs, ys, e, hi a (by simp) _ h, reps_impM (fun b hb => hi b (by simp [hb])) k⟩
theorem ExR.keep (hk : ∀ b, S b → w'.heap[b]? = w.heap[b]?) : ∀ (x : Ex) (vs : List Value), ExR w S x vs → ExR w' S x vs :=
 Ex.ind fun x ih vs h => by
  obtain ⟨A, c, es, p, q, r, e, h1, h2⟩ := (ExR_eq x vs).1 h
  exact (ExR_eq x vs).2 ⟨A, c, es, p, q, r, e, h1.keep hk, reps_impM ih h2⟩
theorem ExR.mono (hs : ∀ b, S b → S' b) : ∀ (x : Ex) (vs : List Value), ExR w S x vs → ExR w S' x vs :=
 Ex.ind fun x ih vs h => by
  obtain ⟨A, c, es, p, q, r, e, h1, h2⟩ := (ExR_eq x vs).1 h
  exact (ExR_eq x vs).2 ⟨A, c, es, p, q, r, e, h1.mono hs, reps_impM ih h2⟩
end
def Sts.list : Sts → List St
 | .nil => []
 | .cons s r => s :: r.list
theorem Sts.list_len : ∀ b : Sts, b.list.length = b.len
 | .nil => rfl
 | .cons s r => by rw [Sts.list, List.length_cons, Sts.list_len r]; rfl
theorem Sts.list_snoc : ∀ (b : Sts) (s : St), (b.snoc s).list = b.list ++ [s]
 | .nil, _ => rfl
 | .cons t r, s => by rw [Sts.snoc, Sts.list, Sts.list_snoc r s]; rfl
def stK : St → Int
 | .let_ _ _ => 1
 | .set _ _ => 2
 | .put _ _ _ _ => 3
 | .del _ _ => 4
 | .if_ _ _ _ => 5
 | .loop _ _ _ => 6
 | .each _ _ _ _ _ _ => 7
 | .roll => 8
 | .emit _ => 9
def stN : St → List UInt8
 | .let_ n _ => n
 | .set n _ => n
 | .loop _ n _ => n
 | .each n _ _ _ _ _ => n
 | _ => []
def stT : St → List UInt8
 | .put t _ _ _ => t
 | .del t _ => t
 | .each _ t _ _ _ _ => t
 | _ => []
def stC : St → List UInt8
 | .put _ c _ _ => c
 | _ => []
def stI : St → Int
 | .loop k _ _ => k
 | .each _ _ _ _ k _ => k
 | _ => 0
def stA : St → List Ex
 | .let_ _ e => [e]
 | .set _ e => [e]
 | .put _ _ k e => [k, e]
 | .del _ k => [k]
 | .if_ e _ _ => [e]
 | .each _ _ lo hi _ _ => [lo, hi]
 | .emit e => [e]
 | _ => []
def stB : St → Sts
 | .if_ _ b _ => b
 | .loop _ _ b => b
 | .each _ _ _ _ _ b => b
 | _ => .nil
def stE : St → Sts
 | .if_ _ _ e => e
 | _ => .nil
def stV (s : St) (a b e : Value) (p q r : Int) : List Value := [nv (stK s), sv (stN s), sv (stT s), sv (stC s), nv (stI s), a, b, e, nv p, nv q, nv r]
def SN (w : World) (S : Nat → Prop) (s : St) (P Q : List Value → Prop) (vs : List Value) : Prop :=
 ∃ A c es B d bs E f fs p q r, vs = stV s (.slice A (stA s).length c) (.slice B (stB s).len d) (.slice E (stE s).len f) p q r ∧
  (Row w S 11 A (stA s).length c es ∧ Reps (ExR w S) (stA s) es) ∧ (Row w S 11 B (stB s).len d bs ∧ P bs) ∧ Row w S 11 E (stE s).len f fs ∧ Q fs
mutual
def StR (w : World) (S : Nat → Prop) : St → List Value → Prop
 | .let_ n e, vs => SN w S (.let_ n e) (fun x => x = []) (fun x => x = []) vs
 | .set n e, vs => SN w S (.set n e) (fun x => x = []) (fun x => x = []) vs
 | .put t c k e, vs => SN w S (.put t c k e) (fun x => x = []) (fun x => x = []) vs
 | .del t k, vs => SN w S (.del t k) (fun x => x = []) (fun x => x = []) vs
 | .if_ e b els, vs => SN w S (.if_ e b els) (fun x => StsR w S b x) (fun x => StsR w S els x) vs
 | .loop k n b, vs => SN w S (.loop k n b) (fun x => StsR w S b x) (fun x => x = []) vs
 | .each n t lo hi k b, vs => SN w S (.each n t lo hi k b) (fun x => StsR w S b x) (fun x => x = []) vs
 | .roll, vs => SN w S .roll (fun x => x = []) (fun x => x = []) vs
 | .emit e, vs => SN w S (.emit e) (fun x => x = []) (fun x => x = []) vs
def StsR (w : World) (S : Nat → Prop) : Sts → List Value → Prop
 | .nil, xs => xs = []
 | .cons s r, xs => ∃ vs ys, xs = vs ++ ys ∧ StR w S s vs ∧ StsR w S r ys
end
section
variable {w w' : World} {S S' : Nat → Prop}
theorem StsR_nil (xs : List Value) : StsR w S .nil xs ↔ xs = [] := by rw [StsR]
theorem StR_eq (s : St) (vs : List Value) : StR w S s vs ↔ SN w S s (StsR w S (stB s)) (StsR w S (stE s)) vs := by
 have h : StsR w S .nil = fun x => x = [] := funext fun x => propext (StsR_nil x)
 cases s <;> simp only [StR, stB, stE, h]
theorem StR.size : ∀ (s : St) (vs : List Value), StR w S s vs → vs.length = 11 := fun s vs h => by
 obtain ⟨A, c, es, B, d, bs, E, f, fs, p, q, r, rfl, _⟩ := (StR_eq s vs).1 h
 rfl
theorem StsR_reps : ∀ (b : Sts) (xs : List Value), StsR w S b xs ↔ Reps (StR w S) b.list xs
 | .nil, xs => StsR_nil xs
 | .cons s r, xs => by
  rw [StsR]
  exact ⟨fun ⟨vs, ys, e, h, k⟩ => ⟨vs, ys, e, h, (StsR_reps r ys).1 k⟩, fun ⟨vs, ys, e, h, k⟩ => ⟨vs, ys, e, h, (StsR_reps r ys).2 k⟩⟩
mutual
theorem St.indM {P : St → Prop} {Q : Sts → Prop} (h : ∀ s, Q (stB s) → Q (stE s) → P s) (h0 : Q .nil) (h1 : ∀ s r, P s → Q r → Q (.cons s r)) : ∀ s, P s
 | .let_ n e => h _ h0 h0
 | .set n e => h _ h0 h0
 | .put t c k e => h _ h0 h0
 | .del t k => h _ h0 h0
 | .if_ e b els => h _ (Sts.indM h h0 h1 b) (Sts.indM h h0 h1 els)
 | .loop k n b => h _ (Sts.indM h h0 h1 b) h0
 | .each n t lo hi k b => h _ (Sts.indM h h0 h1 b) h0
 | .roll => h _ h0 h0
 | .emit e => h _ h0 h0
theorem Sts.indM {P : St → Prop} {Q : Sts → Prop} (h : ∀ s, Q (stB s) → Q (stE s) → P s) (h0 : Q .nil) (h1 : ∀ s r, P s → Q r → Q (.cons s r)) : ∀ b, Q b
 | .nil => h0
 | .cons s r => h1 s r (St.indM h h0 h1 s) (Sts.indM h h0 h1 r)
end
theorem StsR.keep (hk : ∀ b, S b → w'.heap[b]? = w.heap[b]?) : ∀ (b : Sts) (xs : List Value), StsR w S b xs → StsR w' S b xs :=
 Sts.indM (P := fun s => ∀ vs, StR w S s vs → StR w' S s vs) (fun s hb he vs h => by
  obtain ⟨A, c, es, B, d, bs, E, f, fs, p, q, r, e, ⟨h1, h2⟩, ⟨h3, h4⟩, h5, h6⟩ := (StR_eq s vs).1 h
  exact (StR_eq s vs).2 ⟨A, c, es, B, d, bs, E, f, fs, p, q, r, e, ⟨h1.keep hk, h2.imp fun x us => ExR.keep hk x us⟩, ⟨h3.keep hk, hb _ h4⟩, h5.keep hk, he _ h6⟩)
  (fun xs h => (StsR_nil xs).2 ((StsR_nil xs).1 h)) (fun s r hs hr xs h => by
   rw [StsR] at h ⊢
   obtain ⟨vs, ys, e, h1, h2⟩ := h
   exact ⟨vs, ys, e, hs _ h1, hr _ h2⟩)
theorem StR.keep (hk : ∀ b, S b → w'.heap[b]? = w.heap[b]?) (s : St) (vs : List Value) (h : StR w S s vs) : StR w' S s vs := by
  obtain ⟨A, c, es, B, d, bs, E, f, fs, p, q, r, e, ⟨h1, h2⟩, ⟨h3, h4⟩, h5, h6⟩ := (StR_eq s vs).1 h
  exact (StR_eq s vs).2 ⟨A, c, es, B, d, bs, E, f, fs, p, q, r, e, ⟨h1.keep hk, h2.imp fun x us => ExR.keep hk x us⟩, ⟨h3.keep hk, StsR.keep hk _ _ h4⟩, h5.keep hk, StsR.keep hk _ _ h6⟩
theorem StsR.mono (hs : ∀ b, S b → S' b) : ∀ (b : Sts) (xs : List Value), StsR w S b xs → StsR w S' b xs :=
 Sts.indM (P := fun s => ∀ vs, StR w S s vs → StR w S' s vs) (fun s hb he vs h => by
  obtain ⟨A, c, es, B, d, bs, E, f, fs, p, q, r, e, ⟨h1, h2⟩, ⟨h3, h4⟩, h5, h6⟩ := (StR_eq s vs).1 h
  exact (StR_eq s vs).2 ⟨A, c, es, B, d, bs, E, f, fs, p, q, r, e, ⟨h1.mono hs, h2.imp fun x us => ExR.mono hs x us⟩, ⟨h3.mono hs, hb _ h4⟩, h5.mono hs, he _ h6⟩)
  (fun xs h => (StsR_nil xs).2 ((StsR_nil xs).1 h)) (fun s r h3 hr xs h => by
   rw [StsR] at h ⊢
   obtain ⟨vs, ys, e, h1, h2⟩ := h
   exact ⟨vs, ys, e, h3 _ h1, hr _ h2⟩)
theorem StR.mono (hs : ∀ b, S b → S' b) (s : St) (vs : List Value) (h : StR w S s vs) : StR w S' s vs := by
  obtain ⟨A, c, es, B, d, bs, E, f, fs, p, q, r, e, ⟨h1, h2⟩, ⟨h3, h4⟩, h5, h6⟩ := (StR_eq s vs).1 h
  exact (StR_eq s vs).2 ⟨A, c, es, B, d, bs, E, f, fs, p, q, r, e, ⟨h1.mono hs, h2.imp fun x us => ExR.mono hs x us⟩, ⟨h3.mono hs, StsR.mono hs _ _ h4⟩, h5.mono hs, StsR.mono hs _ _ h6⟩
end
def ClR (c : Cl) (vs : List Value) : Prop := vs = [sv c.name, nv c.k, nv c.m]
theorem ClR.size : ∀ (c : Cl) (vs : List Value), ClR c vs → vs.length = 3 := by rintro c vs rfl; rfl
def TbR (w : World) (S : Nat → Prop) (t : Tb) (vs : List Value) : Prop :=
 ∃ A c es, vs = [sv t.name, nv t.rows, .slice A t.cols.length c] ∧ Row w S 3 A t.cols.length c es ∧ Reps ClR t.cols es
def PcR (w : World) (S : Nat → Prop) (x : Pc) (vs : List Value) : Prop :=
 ∃ A c es B d bs p q r, vs = [sv x.name, .slice A x.params.length c, .slice B x.body.len d, nv p, nv q, nv r] ∧ (Row w S 3 A x.params.length c es ∧ Reps ClR x.params es) ∧ Row w S 11 B x.body.len d bs ∧ StsR w S x.body bs
def WkR (w : World) (S : Nat → Prop) (k : Wk) (v : Value) : Prop :=
 ∃ A c es B d fs, v = .agg #[.slice A k.tables.length c, .slice B k.procs.length d] ∧ (Row w S 3 A k.tables.length c es ∧ Reps (TbR w S) k.tables es) ∧ Row w S 6 B k.procs.length d fs ∧ Reps (PcR w S) k.procs fs
section
variable {w w' : World} {S S' : Nat → Prop}
theorem TbR.size : ∀ (t : Tb) (vs : List Value), TbR w S t vs → vs.length = 3 := by rintro t vs ⟨A, c, es, rfl, _⟩; rfl
theorem PcR.size : ∀ (t : Pc) (vs : List Value), PcR w S t vs → vs.length = 6 := by rintro t vs ⟨A, c, es, B, d, bs, p, q, r, rfl, _⟩; rfl
theorem TbR.keep (hk : ∀ b, S b → w'.heap[b]? = w.heap[b]?) (t : Tb) (vs : List Value) : TbR w S t vs → TbR w' S t vs
 | ⟨A, c, es, e, h1, h2⟩ => ⟨A, c, es, e, h1.keep hk, h2⟩
theorem TbR.mono (hs : ∀ b, S b → S' b) (t : Tb) (vs : List Value) : TbR w S t vs → TbR w S' t vs
 | ⟨A, c, es, e, h1, h2⟩ => ⟨A, c, es, e, h1.mono hs, h2⟩
theorem PcR.keep (hk : ∀ b, S b → w'.heap[b]? = w.heap[b]?) (t : Pc) (vs : List Value) : PcR w S t vs → PcR w' S t vs
 | ⟨A, c, es, B, d, bs, p, q, r, e, ⟨h1, h2⟩, h3, h4⟩ => ⟨A, c, es, B, d, bs, p, q, r, e, ⟨h1.keep hk, h2⟩, h3.keep hk, StsR.keep hk _ _ h4⟩
theorem PcR.mono (hs : ∀ b, S b → S' b) (t : Pc) (vs : List Value) : PcR w S t vs → PcR w S' t vs
 | ⟨A, c, es, B, d, bs, p, q, r, e, ⟨h1, h2⟩, h3, h4⟩ => ⟨A, c, es, B, d, bs, p, q, r, e, ⟨h1.mono hs, h2⟩, h3.mono hs, StsR.mono hs _ _ h4⟩
theorem WkR.keep {k : Wk} {v : Value} (h : WkR w S k v) (hk : ∀ b, S b → w'.heap[b]? = w.heap[b]?) : WkR w' S k v := by
 obtain ⟨A, c, es, B, d, fs, e, ⟨h1, h2⟩, h3, h4⟩ := h
 exact ⟨A, c, es, B, d, fs, e, ⟨h1.keep hk, h2.imp fun t vs => TbR.keep hk t vs⟩, h3.keep hk, h4.imp fun t vs => PcR.keep hk t vs⟩
end
def In (lo : Nat) (w : World) (S : Nat → Prop) : Prop := ∀ b, S b → lo ≤ b ∧ b < w.heap.size
theorem In.keeps {lo : Nat} {w w' : World} {S : Nat → Prop} {bs : List Nat} (h : In lo w S) (m : Mod bs w w') (hb : ∀ x ∈ bs, x < lo) : ∀ b, S b → w'.heap[b]? = w.heap[b]? :=
 fun b hS => m.block b (h b hS).2 (fun hx => by have := hb b hx; have := (h b hS).1; omega)
theorem In.next {lo : Nat} {w w' : World} {S : Nat → Prop} (h : In lo w S) (hs : w.heap.size ≤ w'.heap.size) : In lo w' S := fun b hS => ⟨(h b hS).1, Nat.lt_of_lt_of_le (h b hS).2 hs⟩
theorem In.more {lo lo' : Nat} {w : World} {S : Nat → Prop} (h : In lo w S) (hs : lo' ≤ lo) : In lo' w S := fun b hS => ⟨Nat.le_trans hs (h b hS).1, (h b hS).2⟩
end Go.Proofs.YtnbmpfdffoidaaaGreatDoor.Y
namespace Go.Proofs.YtnbmpfdffoidaaaGreatDoor.Y
open O V S
variable {α β : Type}
@[simp] theorem bind_ok (a : α) (l : List Tok) (f : α → List Tok → Res β) : (Res.ok a l).bind f = f a l := rfl
@[simp] theorem bind_bad (f : α → List Tok → Res β) : (Res.bad : Res α).bind f = .bad := rfl
@[simp] theorem bind_oof (f : α → List Tok → Res β) : (Res.oof : Res α).bind f = .oof := rfl
def Le (p q : Res α) : Prop := p ≠ .oof → q = p
theorem Le.refl (p : Res α) : Le p p := fun _ => rfl
theorem Le.oof (q : Res α) : Le .oof q := fun h => absurd rfl h
theorem Le.bind {p q : Res α} {f g : α → List Tok → Res β} (h : Le p q) (k : ∀ a l, Le (f a l) (g a l)) : Le (p.bind f) (q.bind g) := by
 intro hn
 cases p with
 | ok a l => rw [h (by simp)]; exact k a l hn
 | bad => rw [h (by simp)]; rfl
 | oof => exact absurd rfl hn
theorem Le.around {a b : List UInt8} {d : Nat} {l : List Tok} {f g : Nat → List Tok → Res α} (k : ∀ d l, Le (f d l) (g d l)) : Le (around a b d l f) (around a b d l g) := by
 unfold Y.around
 split
 ·split
  ·exact .refl _
  ·exact (k _ _).bind fun _ _ => .refl _
 ·exact .refl _
theorem Le.ite {c : Prop} [Decidable c] {p q p' q' : Res α} (h : Le p q) (h' : Le p' q') : Le (if c then p else p') (if c then q else q') := by
 split <;> assumption
theorem expr_le : ∀ f, (∀ lvl d l, Le (pExpr f lvl d l) (pExpr (f + 1) lvl d l)) ∧ (∀ lvl d x l, Le (pLoop f lvl d x l) (pLoop (f + 1) lvl d x l)) ∧ (∀ d l, Le (pUnary f d l) (pUnary (f + 1) d l)) ∧ (∀ d l, Le (pOperand f d l) (pOperand (f + 1) d l))
 | 0 => ⟨fun _ _ _ => by rw [pExpr]; exact .oof _, fun _ _ _ _ => by rw [pLoop]; exact .oof _, fun _ _ => by rw [pUnary]; exact .oof _, fun _ _ => by rw [pOperand]; exact .oof _⟩
 | f + 1 => by
  obtain ⟨he, hl, hu, ho⟩ := expr_le f
  refine ⟨fun lvl d l => ?_, fun lvl d x l => ?_, fun d l => ?_, fun d l => ?_⟩
  ·rw [pExpr, pExpr]
   exact (hu _ _).bind fun _ _ => hl _ _ _ _
  ·rw [pLoop, pLoop]
   exact .ite (.refl _) ((he _ _ _).bind fun _ _ => hl _ _ _ _)
  ·rw [pUnary, pUnary]
   exact .ite (.ite (.refl _) ((hu _ _).bind fun _ _ => .refl _)) (.ite (.ite (.refl _) ((hu _ _).bind fun _ _ => .refl _)) (ho _ _))
  ·rw [pOperand, pOperand]
   cases pLit l with
   | some v => exact .refl _
   | none =>
    refine .ite (.around fun _ _ => he _ _ _) (.ite (.around fun _ _ => ?_) (.ite (.around fun _ _ => ?_) (.ite (.around fun _ _ => ?_) ?_)))
    ·exact (Le.refl _).bind fun _ _ => (Le.refl _).bind fun _ _ => (he _ _ _).bind fun _ _ => .refl _
    ·exact (Le.refl _).bind fun _ _ => (Le.refl _).bind fun _ _ => (Le.refl _).bind fun _ _ => (Le.refl _).bind fun _ _ => (he _ _ _).bind fun _ _ => (Le.refl _).bind fun _ _ => (he _ _ _).bind fun _ _ => .refl _
    ·exact (Le.refl _).bind fun _ _ => (Le.refl _).bind fun _ _ => (he _ _ _).bind fun _ _ => (Le.refl _).bind fun _ _ => (he _ _ _).bind fun _ _ => .refl _
    ·refine (Le.refl _).bind fun _ _ => .ite ((Le.around fun _ _ => he _ _ _).bind fun _ _ => .refl _) (.refl _)
theorem line_le (f d : Nat) (l : List Tok) : Le (pLine f d l) (pLine (f + 1) d l) := ((expr_le f).1 _ _ _).bind fun _ _ => .refl _
theorem key_le (f d : Nat) (l : List Tok) : Le (pKey f d l) (pKey (f + 1) d l) := .around fun _ _ => (expr_le f).1 _ _ _
theorem stmt_le : ∀ f, (∀ d l, Le (pStmt f d l) (pStmt (f + 1) d l)) ∧ (∀ d l, Le (pBlock f d l) (pBlock (f + 1) d l)) ∧ (∀ d a l, Le (pStmts f d a l) (pStmts (f + 1) d a l))
 | 0 => ⟨fun _ _ => by rw [pStmt]; exact .oof _, fun _ _ => by rw [pBlock]; exact .oof _, fun _ _ _ => by rw [pStmts]; exact .oof _⟩
 | f + 1 => by
  obtain ⟨hs, hb, ht⟩ := stmt_le f
  have he := (expr_le f).1
  refine ⟨fun d l => ?_, fun d l => ?_, fun d a l => ?_⟩
  ·rw [pStmt, pStmt]
   refine .ite ?_ (.ite ?_ (.ite ?_ (.ite ?_ (.ite ?_ (.ite (.refl _) (.ite ?_ ?_))))))
   ·exact (Le.refl _).bind fun _ _ => (Le.refl _).bind fun _ _ => (line_le _ _ _).bind fun _ _ => .refl _
   ·exact (Le.refl _).bind fun _ _ => (key_le _ _ _).bind fun _ _ => .refl _
   ·exact (he _ _ _).bind fun _ _ => (hb _ _).bind fun _ _ => .ite ((hb _ _).bind fun _ _ => .refl _) (.refl _)
   ·exact (Le.refl _).bind fun _ _ => (Le.refl _).bind fun _ _ => (hb _ _).bind fun _ _ => .refl _
   ·exact (Le.refl _).bind fun _ _ => (Le.refl _).bind fun _ _ => (Le.refl _).bind fun _ _ => (Le.refl _).bind fun _ _ => (he _ _ _).bind fun _ _ => (Le.refl _).bind fun _ _ => (he _ _ _).bind fun _ _ => (Le.refl _).bind fun _ _ => (Le.refl _).bind fun _ _ => (hb _ _).bind fun _ _ => .refl _
   ·exact (line_le _ _ _).bind fun _ _ => .refl _
   ·refine (Le.refl _).bind fun _ _ => .ite ?_ ?_
    ·exact (key_le _ _ _).bind fun _ _ => (Le.refl _).bind fun _ _ => (Le.refl _).bind fun _ _ => (Le.refl _).bind fun _ _ => (line_le _ _ _).bind fun _ _ => .refl _
    ·exact (Le.refl _).bind fun _ _ => (line_le _ _ _).bind fun _ _ => .refl _
  ·rw [pBlock, pBlock]
   exact .around fun _ _ => ht _ _ _
  ·rw [pStmts, pStmts]
   exact .ite (.refl _) ((Le.refl _).bind fun _ _ => (hs _ _).bind fun _ _ => ht _ _ _)
theorem cols_le : ∀ f a l, Le (pCols f a l) (pCols (f + 1) a l)
 | 0, _, _ => by rw [pCols]; exact .oof _
 | f + 1, a, l => by
  rw [pCols, pCols]
  exact .ite (.refl _) ((Le.refl _).bind fun _ _ => (Le.refl _).bind fun _ _ => (Le.refl _).bind fun _ _ => cols_le f _ _)
theorem params_le : ∀ f a l, Le (pParams f a l) (pParams (f + 1) a l)
 | 0, _, _ => by rw [pParams]; exact .oof _
 | f + 1, a, l => by
  rw [pParams, pParams]
  exact .ite ((Le.refl _).bind fun _ _ => (Le.refl _).bind fun _ _ => params_le f _ _) (.refl _)
theorem table_le (f : Nat) (l : List Tok) : Le (pTable f l) (pTable (f + 1) l) := (Le.refl _).bind fun _ _ => (Le.refl _).bind fun _ _ => (Le.refl _).bind fun _ _ => (Le.refl _).bind fun _ _ => (Le.refl _).bind fun _ _ => (cols_le f _ _).bind fun _ _ => .refl _
theorem proc_le (f : Nat) (l : List Tok) : Le (pProc f l) (pProc (f + 1) l) :=
 (Le.refl _).bind fun _ _ => (Le.refl _).bind fun _ _ => (Le.refl _).bind fun _ _ => (Le.ite (.refl _) ((Le.refl _).bind fun _ _ => params_le f _ _)).bind fun _ _ => (Le.refl _).bind fun _ _ => ((stmt_le f).2.1 _ _).bind fun _ _ => .refl _
theorem tables_le : ∀ f a l, Le (pTables f a l) (pTables (f + 1) a l)
 | 0, _, _ => by rw [pTables]; exact .oof _
 | f + 1, a, l => by
  rw [pTables, pTables]
  exact .ite ((Le.refl _).bind fun _ _ => (table_le f _).bind fun _ _ => tables_le f _ _) (.refl _)
theorem procs_le : ∀ f a l, Le (pProcs f a l) (pProcs (f + 1) a l)
 | 0, _, _ => by rw [pProcs]; exact .oof _
 | f + 1, a, l => by
  rw [pProcs, pProcs]
  exact .ite ((Le.refl _).bind fun _ _ => (proc_le f _).bind fun _ _ => procs_le f _ _) (.refl _)
theorem work_le (f : Nat) (l : List Tok) : Le (pWork f l) (pWork (f + 1) l) := (tables_le f _ _).bind fun _ _ => (procs_le f _ _).bind fun _ _ => .refl _
theorem le_add {p : Nat → Res α} (h : ∀ f, Le (p f) (p (f + 1))) (f : Nat) : ∀ n, Le (p f) (p (f + n))
 | 0 => .refl _
 | n + 1 => fun hn => by
  have h1 := le_add h f n hn
  have h2 := h (f + n) (by rw [h1]; exact hn)
  rw [← Nat.add_assoc, h2, h1]
def Ev (p : Nat → Res α) (r : Res α) : Prop := ∃ F, ∀ f, F ≤ f → p f = r
theorem Ev.now {p : Nat → Res α} {r : Res α} (h : Ev p r) (hm : ∀ f, Le (p f) (p (f + 1))) {f : Nat} (hn : p f ≠ .oof) : p f = r := by
 obtain ⟨F, hF⟩ := h
 have h1 := le_add hm f F hn
 rw [hF _ (by omega)] at h1
 exact h1.symm
theorem Ev.of_eq {p : Nat → Res α} {r : Res α} (h : ∀ f, p f = r) : Ev p r := ⟨0, fun f _ => h f⟩
theorem Ev.bind {p : Nat → Res α} {g : Nat → α → List Tok → Res β} {a : α} {l : List Tok} {r : Res β} (h : Ev p (.ok a l)) (k : Ev (fun f => g f a l) r) : Ev (fun f => (p f).bind (g f)) r := by
 obtain ⟨F, hF⟩ := h
 obtain ⟨G, hG⟩ := k
 exact ⟨F + G, fun f hf => by show (p f).bind (g f) = r; rw [hF f (by omega)]; exact hG f (by omega)⟩
theorem Ev.step {p q : Nat → Res α} {r : Res α} (h : ∀ f, p (f + 1) = q f) (k : Ev q r) : Ev p r := by
 obtain ⟨F, hF⟩ := k
 exact ⟨F + 1, fun f hf => by obtain ⟨m, rfl⟩ : ∃ m, f = m + 1 := ⟨f - 1, by omega⟩; rw [h]; exact hF m (by omega)⟩
theorem Ev.around {a b : List UInt8} {d : Nat} {t : Tok} {l r : List Tok} {k : Nat → Nat → List Tok → Res α} {x : α} {u : Tok} (ha : isT (t :: l) a = true) (hd : d < 16) (h : Ev (fun f => k f (d + 1) l) (.ok x (u :: r))) (hb : isT (u :: r) b = true) : Ev (fun f => around a b d (t :: l) (k f)) (.ok x r) := by
 obtain ⟨F, hF⟩ := h
 refine ⟨F, fun f hf => ?_⟩
 have h1 : k f (d + 1) l = .ok x (u :: r) := hF f hf
 show Y.around a b d (t :: l) (k f) = _
 unfold Y.around
 rw [if_pos ha, if_neg (by omega), List.tail_cons, h1, bind_ok]
 unfold want
 rw [if_pos hb]
 rfl
end Go.Proofs.YtnbmpfdffoidaaaGreatDoor.Y
namespace Go.Proofs.YtnbmpfdffoidaaaGreatDoor.Y
open O V S
def okV (v : Val) : Prop := right v = true ∧ (v.k = 1 → 0 ≤ v.n ∧ v.n ≤ 9223372036854775807)
def okX : Ex → Prop
 | .val v => okV v
 | .var n => isNameL n = true
 | .cell n c k => isNameL n = true ∧ isNameL c = true ∧ okX k
 | .has n k => isNameL n = true ∧ okX k
 | .sum n c a b => isNameL n = true ∧ isNameL c = true ∧ okX a ∧ okX b
 | .cnt n a b => isNameL n = true ∧ okX a ∧ okX b
 | .un op a => (op = 13 ∨ op = 14) ∧ okX a
 | .bin op a b => (1 ≤ op ∧ op ≤ 12) ∧ okX a ∧ okX b
def ndb (x : Ex) (least n : Nat) : Nat := if lvlX x < least then n + 1 else n
def nd : Ex → Nat
 | .val _ => 0
 | .var _ => 0
 | .cell _ _ k => nd k + 1
 | .has _ k => nd k + 1
 | .sum _ _ a b => max (nd a) (nd b) + 1
 | .cnt _ a b => max (nd a) (nd b) + 1
 | .un _ a => ndb a 6 (nd a) + 1
 | .bin op a b => max (ndb a (lvlS op) (nd a)) (ndb b (lvlS op + 1) (nd b))
theorem lvlS_bound {op : Nat} (h : 1 ≤ op ∧ op ≤ 12) : 1 ≤ lvlS op ∧ lvlS op ≤ 5 := by
 have : op = 1 ∨ op = 2 ∨ op = 3 ∨ op = 4 ∨ op = 5 ∨ op = 6 ∨ op = 7 ∨ op = 8 ∨ op = 9 ∨ op = 10 ∨ op = 11 ∨ op = 12 := by omega
 rcases this with h | h | h | h | h | h | h | h | h | h | h | h <;> subst h <;> decide
theorem binS_sign {op : Nat} (h : 1 ≤ op ∧ op ≤ 12) : binS (signS op) = (op, lvlS op) := by
 have : op = 1 ∨ op = 2 ∨ op = 3 ∨ op = 4 ∨ op = 5 ∨ op = 6 ∨ op = 7 ∨ op = 8 ∨ op = 9 ∨ op = 10 ∨ op = 11 ∨ op = 12 := by omega
 rcases this with h | h | h | h | h | h | h | h | h | h | h | h <;> subst h <;> decide
theorem lvlX_pos {x : Ex} (h : okX x) : 1 ≤ lvlX x := by
 cases x <;> simp only [lvlX] <;> try omega
 exact (lvlS_bound h.1).1
theorem name_ne {n w : List UInt8} (h : isNameL n = true) (hw : isNameL w = false) : n ≠ w := fun e => by subst e; rw [h] at hw; cases hw
theorem isT_name {n w : List UInt8} (h : isNameL n = true) (hw : isNameL w = false) (r : List Tok) : isT (tw n :: r) w = false := by
 unfold isT tw
 rw [Bool.and_eq_false_iff]
 exact .inl (decide_eq_false (name_ne h hw))
theorem isT_tg (s w : List UInt8) (r : List Tok) : isT (tg s :: r) w = decide (s = w) := by
 unfold isT tg; dsimp only; rw [show decide ((4 : Int) ≠ 3) = true from rfl, Bool.and_true]
theorem isT_tw (s w : List UInt8) (r : List Tok) : isT (tw s :: r) w = decide (s = w) := by
 unfold isT tw; dsimp only; rw [show decide ((1 : Int) ≠ 3) = true from rfl, Bool.and_true]
theorem isT_tn (n : Int) (r : List Tok) (w : List UInt8) : isT (tn n :: r) w = decide (decL n = w) := by
 unfold isT tn; dsimp only; rw [show decide ((2 : Int) ≠ 3) = true from rfl, Bool.and_true]
theorem pLit_name {n : List UInt8} (h : isNameL n = true) (r : List Tok) : pLit (tw n :: r) = none := by
 unfold pLit tw
 dsimp only
 rw [if_neg (fun e => name_ne h (by decide) e.2), if_neg (fun e => name_ne h (by decide) e.2), if_neg (by decide)]
theorem pLit_word {w : List UInt8} (h1 : w ≠ w_true) (h2 : w ≠ w_false) (r : List Tok) : pLit (tw w :: r) = none := by
 unfold pLit tw
 dsimp only
 rw [if_neg (fun e => h1 e.2), if_neg (fun e => h2 e.2), if_neg (by decide)]
theorem pLit_sign (s : List UInt8) (r : List Tok) : pLit (tg s :: r) = none := by
 unfold pLit tg
 dsimp only
 rw [if_neg (by simp), if_neg (by simp), if_neg (by decide)]
theorem pLit_val {v : Val} (h : okV v) (r : List Tok) : pLit (tv v :: r) = some v := by
 obtain ⟨h, _⟩ := h
 obtain ⟨k, n, s⟩ := v
 rcases right_cases h with ⟨e, e2⟩ | ⟨e, e2, e3⟩ | ⟨e, e2, _⟩
 ·simp only at e e2; subst e e2
  simp [pLit, tv, tn]
 ·simp only at e e2 e3; subst e e2
  rcases e3 with e3 | e3 <;> subst e3 <;> simp [pLit, tv, tw, w_true, w_false]
 ·simp only at e e2; subst e e2
  simp [pLit, tv]
theorem pName_tw {n : List UInt8} (h : isNameL n = true) (r : List Tok) : pName (tw n :: r) = .ok n r := by
 unfold pName tw
 dsimp only
 rw [if_pos ⟨rfl, h⟩]
theorem want_tg (s : List UInt8) (r : List Tok) : want (tg s :: r) s = .ok () r := by
 unfold want
 rw [isT_tg, decide_eq_true rfl]
 rfl
theorem want_tw (s : List UInt8) (r : List Tok) : want (tw s :: r) s = .ok () r := by
 unfold want
 rw [isT_tw, decide_eq_true rfl]
 rfl
theorem opT_sign {op : Nat} (h : 1 ≤ op ∧ op ≤ 12) (r : List Tok) : opT (tg (signS op) :: r) = (op, lvlS op) := by
 unfold opT tg
 dsimp only
 rw [if_pos rfl, binS_sign h]
theorem opT_tg {s : List UInt8} (h : binS s = (0, 0)) (r : List Tok) : (opT (tg s :: r)).2 = 0 := by
 unfold opT tg
 dsimp only
 rw [if_pos rfl, h]
theorem opT_tw (s : List UInt8) (r : List Tok) : (opT (tw s :: r)).2 = 0 := by
 unfold opT tw
 dsimp only
 rw [if_neg (by decide)]
theorem dig_c {k : Nat} (h : k < 10) : 48 ≤ (UInt8.ofNat (48 + k)).toNat ∧ (UInt8.ofNat (48 + k)).toNat ≤ 57 := by
 rw [UInt8.toNat_ofNat']
 omega
theorem digN_all : ∀ (f n : Nat), n < 10 ^ (f + 1) → ∀ c ∈ digN n, 48 ≤ c.toNat ∧ c.toNat ≤ 57
 | 0, n, h, c, hc => by
  rw [digN_lt (by simpa using h)] at hc
  simp only [List.mem_singleton] at hc
  subst hc
  exact dig_c (by simpa using h)
 | f + 1, n, h, c, hc => by
  by_cases g : n < 10
  ·rw [digN_lt g] at hc
   simp only [List.mem_singleton] at hc
   subst hc
   exact dig_c g
  ·rw [digN_ge (by omega), List.mem_append] at hc
   rcases hc with hc | hc
   ·exact digN_all f (n / 10) (by rw [Nat.pow_succ] at h; omega) c hc
   ·simp only [List.mem_singleton] at hc
    subst hc
    exact dig_c (Nat.mod_lt _ (by omega))
theorem decL_all {n : Int} (h0 : 0 ≤ n) (h1 : n ≤ 9223372036854775807) : ∀ c ∈ decL n, 48 ≤ c.toNat ∧ c.toNat ≤ 57 := by
 unfold decL
 rw [if_neg (by omega)]
 exact digN_all 19 _ (by omega)
theorem decL_ne {n : Int} (h0 : 0 ≤ n) (h1 : n ≤ 9223372036854775807) {c : UInt8} {w : List UInt8} (hc : c.toNat < 48 ∨ 57 < c.toNat) : decL n ≠ c :: w := fun e => by
 have := decL_all h0 h1 c (by rw [e]; simp)
 omega
theorem val_no {v : Val} (h : okV v) (r : List Tok) : isT (tv v :: r) [33] = false ∧ isT (tv v :: r) [45] = false := by
 unfold tv
 split
 ·rename_i e
  obtain ⟨h0, h1⟩ := h.2 e
  rw [isT_tn, isT_tn]
  exact ⟨decide_eq_false (decL_ne h0 h1 (by decide)), decide_eq_false (decL_ne h0 h1 (by decide))⟩
 ·split
  ·rw [isT_tw, isT_tw]
   split <;> exact ⟨by decide, by decide⟩
  ·constructor <;> (unfold isT; dsimp only; rw [show decide ((3 : Int) ≠ 3) = false from rfl, Bool.and_false])
theorem Ev.stop {lvl d : Nat} {x : Ex} {l : List Tok} (h : (opT l).2 ≤ lvl) : Ev (fun f => pLoop f lvl d x l) (.ok x l) := by
 refine ⟨1, fun f hf => ?_⟩
 obtain ⟨m, rfl⟩ : ∃ m, f = m + 1 := ⟨f - 1, by omega⟩
 show pLoop (m + 1) lvl d x l = _
 rw [pLoop, if_pos h]
theorem Ev.expr {lvl d : Nat} {l r : List Tok} {x : Ex} {R : Res Ex} (h : Ev (fun f => pUnary f d l) (.ok x r)) (k : Ev (fun f => pLoop f lvl d x r) R) : Ev (fun f => pExpr f lvl d l) R :=
 Ev.step (q := fun f => (pUnary f d l).bind fun x r => pLoop f lvl d x r) (fun f => by rw [pExpr]) (Ev.bind h k)
theorem Ev.whole {d : Nat} {l r : List Tok} {x : Ex} (h : ∀ R, Ev (fun f => pLoop f 0 d x r) R → Ev (fun f => pExpr f 0 d l) R) (hr : (opT r).2 = 0) : Ev (fun f => pExpr f 0 d l) (.ok x r) :=
 h _ (Ev.stop (by omega))
structure Back (x : Ex) : Prop where
 u : ∀ d rest, 6 ≤ lvlX x → d + nd x ≤ 16 → isT rest [91] = false → Ev (fun f => pUnary f d (toks0 x ++ rest)) (.ok x rest)
 e : ∀ lvl d rest R, d + nd x ≤ 16 → lvl < lvlX x → (opT rest).2 ≤ lvlX x → isT rest [91] = false → Ev (fun f => pLoop f lvl d x rest) R → Ev (fun f => pExpr f lvl d (toks0 x ++ rest)) R
theorem Back.of_u {x : Ex} (h6 : 6 ≤ lvlX x) (h : ∀ d rest, d + nd x ≤ 16 → isT rest [91] = false → Ev (fun f => pUnary f d (toks0 x ++ rest)) (.ok x rest)) : Back x :=
 ⟨fun d rest _ hd hr => h d rest hd hr, fun _ d rest _ hd _ _ hr k => Ev.expr (h d rest hd hr) k⟩
theorem Ev.operand {d : Nat} {l : List Tok} {R : Res Ex} (h1 : isT l [33] = false) (h2 : isT l [45] = false) (k : Ev (fun f => pOperand f d l) R) : Ev (fun f => pUnary f d l) R :=
 Ev.step (q := fun f => pOperand f d l) (fun f => by rw [pUnary, h1, h2]; rfl) k
theorem Back.ahead {x : Ex} (h : Back x) (hk : okX x) {d : Nat} (hd : d + nd x ≤ 16) (s : List UInt8) (hs : binS s = (0, 0)) (hs2 : s ≠ [91]) (r : List Tok) : Ev (fun f => pExpr f 0 d (toks0 x ++ tg s :: r)) (.ok x (tg s :: r)) := by
 refine h.e 0 d _ _ hd (by have := lvlX_pos hk; omega) (by rw [opT_tg hs]; omega) (by rw [isT_tg]; exact decide_eq_false hs2) (Ev.stop (by rw [opT_tg hs]; omega))
theorem Back.aheadW {x : Ex} (h : Back x) (hk : okX x) {d : Nat} (hd : d + nd x ≤ 16) (s : List UInt8) (hs2 : s ≠ [91]) (r : List Tok) : Ev (fun f => pExpr f 0 d (toks0 x ++ tw s :: r)) (.ok x (tw s :: r)) := by
 refine h.e 0 d _ _ hd (by have := lvlX_pos hk; omega) (by rw [opT_tw]; omega) (by rw [isT_tw]; exact decide_eq_false hs2) (Ev.stop (by rw [opT_tw]; omega))
theorem Back.brk {x : Ex} (h : Back x) (hk : okX x) {d : Nat} (hd : d + (nd x + 1) ≤ 16) (rest : List Tok) : Ev (fun f => pUnary f d (tg [40] :: (toks0 x ++ [tg [41]]) ++ rest)) (.ok x rest) := by
 refine Ev.operand (by rw [List.cons_append, isT_tg]; decide) (by rw [List.cons_append, isT_tg]; decide) ?_
 refine Ev.step (q := fun f => around [40] [41] d (tg [40] :: (toks0 x ++ [tg [41]]) ++ rest) fun d r => pExpr f 0 d r) (fun f => by rw [pOperand, List.cons_append, pLit_sign, isT_tg]; rfl) ?_
 have := h.ahead hk (d := d + 1) (by omega) [41] (by decide) (by decide) rest
 refine Ev.around (t := tg [40]) (k := fun f d r => pExpr f 0 d r) (by rw [isT_tg]; decide) (by omega) (u := tg [41]) ?_ (by rw [isT_tg]; decide)
 simpa [List.append_assoc] using this
theorem Back.ux {x : Ex} (h : Back x) (hk : okX x) {d : Nat} (hd : d + ndb x 6 (nd x) ≤ 16) (rest : List Tok) (hr : isT rest [91] = false) : Ev (fun f => pUnary f d (toksX x 6 ++ rest)) (.ok x rest) := by
 unfold toksX br
 unfold ndb at hd
 split
 ·rename_i hl
  rw [if_pos hl] at hd
  exact h.brk hk hd rest
 ·rename_i hl
  rw [if_neg hl] at hd
  exact h.u d rest (by omega) hd hr
theorem Back.ex {x : Ex} (h : Back x) (hk : okX x) {least lvl d : Nat} (hl : lvl < least) (hd : d + ndb x least (nd x) ≤ 16) (rest : List Tok) (ho : least ≤ lvlX x → (opT rest).2 ≤ lvlX x) (hr : isT rest [91] = false) {R : Res Ex} (k : Ev (fun f => pLoop f lvl d x rest) R) : Ev (fun f => pExpr f lvl d (toksX x least ++ rest)) R := by
 unfold toksX br
 unfold ndb at hd
 split
 ·rename_i hb
  rw [if_pos hb] at hd
  exact Ev.expr (h.brk hk hd rest) k
 ·rename_i hb
  rw [if_neg hb] at hd
  exact h.e lvl d rest R hd (by omega) (ho (by omega)) hr k
theorem Ev.name {α : Type} {n : List UInt8} (h : isNameL n = true) (r : List Tok) {g : Nat → List UInt8 → List Tok → Res α} {R : Res α} (k : Ev (fun f => g f n r) R) : Ev (fun f => (pName (tw n :: r)).bind (g f)) R :=
 Ev.bind (p := fun _ => pName (tw n :: r)) (Ev.of_eq fun _ => pName_tw h r) k
theorem Ev.wantG {α : Type} (s : List UInt8) (r : List Tok) {g : Nat → Unit → List Tok → Res α} {R : Res α} (k : Ev (fun f => g f () r) R) : Ev (fun f => (want (tg s :: r) s).bind (g f)) R :=
 Ev.bind (p := fun _ => want (tg s :: r) s) (Ev.of_eq fun _ => want_tg s r) k
theorem Ev.wantW {α : Type} (s : List UInt8) (r : List Tok) {g : Nat → Unit → List Tok → Res α} {R : Res α} (k : Ev (fun f => g f () r) R) : Ev (fun f => (want (tw s :: r) s).bind (g f)) R :=
 Ev.bind (p := fun _ => want (tw s :: r) s) (Ev.of_eq fun _ => want_tw s r) k
theorem Ev.ok (α : Type) (a : α) (l : List Tok) : Ev (fun _ => Res.ok a l) (.ok a l) := Ev.of_eq fun _ => rfl
theorem name_no33 {n : List UInt8} (h : isNameL n = true) (r : List Tok) : isT (tw n :: r) [33] = false ∧ isT (tw n :: r) [45] = false ∧ isT (tw n :: r) [40] = false := ⟨isT_name h (by decide) r, isT_name h (by decide) r, isT_name h (by decide) r⟩
theorem back : ∀ x, okX x → Back x
 | .val v, h => Back.of_u (by simp [lvlX]) fun d rest _ _ => by
  have h : okV v := h
  refine Ev.operand (l := tv v :: rest) (val_no h rest).1 (val_no h rest).2 ?_
  refine Ev.step (q := fun _ => .ok (.val v) rest) (fun f => ?_) (Ev.ok _ _ _)
  show pOperand (f + 1) d (tv v :: rest) = _
  rw [pOperand, pLit_val h]
  rfl
 | .var n, h => Back.of_u (by simp [lvlX]) fun d rest _ hr => by
  refine Ev.operand (name_no33 h rest).1 (name_no33 h rest).2.1 ?_
  refine Ev.step (q := fun f => (pName (tw n :: rest)).bind fun n r => if isT r [91] then (around [91] [93] d r fun d r => pExpr f 0 d r).bind fun k r => (want r [46]).bind fun _ r => (pName r).bind fun c r => .ok (Ex.cell n c k) r else .ok (Ex.var n) r) (fun f => ?_) ?_
  ·show pOperand (f + 1) d (tw n :: rest) = _
   rw [pOperand, pLit_name h, (name_no33 h rest).2.2, isT_name h (w := w_has) (by decide), isT_name h (w := w_sum) (by decide), isT_name h (w := w_count) (by decide)]
   rfl
  ·refine Ev.name h rest ?_
   rw [hr]
   exact Ev.ok _ _ _
 | .cell n c k, h => Back.of_u (by simp [lvlX]) fun d rest hd _ => by
  obtain ⟨h, hc, hk⟩ := h
  have e : toks0 (.cell n c k) ++ rest = tw n :: (tg [91] :: (toks0 k ++ tg [93] :: tg [46] :: tw c :: rest)) := by simp [toks0]
  rw [e]
  refine Ev.operand (name_no33 h _).1 (name_no33 h _).2.1 ?_
  refine Ev.step (q := fun f => (pName (tw n :: (tg [91] :: (toks0 k ++ tg [93] :: tg [46] :: tw c :: rest)))).bind fun n r => if isT r [91] then (around [91] [93] d r fun d r => pExpr f 0 d r).bind fun k r => (want r [46]).bind fun _ r => (pName r).bind fun c r => .ok (Ex.cell n c k) r else .ok (Ex.var n) r) (fun f => ?_) ?_
  ·rw [pOperand, pLit_name h, (name_no33 h _).2.2, isT_name h (w := w_has) (by decide), isT_name h (w := w_sum) (by decide), isT_name h (w := w_count) (by decide)]
   rfl
  ·refine Ev.name h _ ?_
   rw [isT_tg, decide_eq_true rfl]
   simp only [if_true]
   refine Ev.bind (p := fun f => around [91] [93] d (tg [91] :: (toks0 k ++ tg [93] :: tg [46] :: tw c :: rest)) fun d r => pExpr f 0 d r) (a := k) (l := tg [46] :: tw c :: rest) ?_ ?_
   ·have hd' : d + (nd k + 1) ≤ 16 := hd
    exact Ev.around (t := tg [91]) (k := fun f d r => pExpr f 0 d r) (by rw [isT_tg]; decide) (by omega) (u := tg [93]) ((back k hk).ahead hk (by omega) [93] (by decide) (by decide) _) (by rw [isT_tg]; decide)
   ·refine Ev.wantG [46] _ ?_
    refine Ev.name hc _ ?_
    exact Ev.ok _ _ _
 | .has n k, h => Back.of_u (by simp [lvlX]) fun d rest hd _ => by
  obtain ⟨h, hk⟩ := h
  have e : toks0 (.has n k) ++ rest = tw w_has :: (tg [40] :: (tw n :: tg [44] :: (toks0 k ++ tg [41] :: rest))) := by simp [toks0]
  have hd' : d + (nd k + 1) ≤ 16 := hd
  rw [e]
  refine Ev.operand (by rw [isT_tw]; decide) (by rw [isT_tw]; decide) ?_
  refine Ev.step (q := fun f => around [40] [41] d (tg [40] :: (tw n :: tg [44] :: (toks0 k ++ tg [41] :: rest))) fun d r => (pName r).bind fun n r => (want r [44]).bind fun _ r => (pExpr f 0 d r).bind fun a r => .ok (Ex.has n a) r) (fun f => ?_) ?_
  ·rw [pOperand, pLit_word (by decide) (by decide), isT_tw, isT_tw]
   rfl
  ·refine Ev.around (t := tg [40]) (k := fun f d r => (pName r).bind fun n r => (want r [44]).bind fun _ r => (pExpr f 0 d r).bind fun a r => .ok (Ex.has n a) r) (by rw [isT_tg]; decide) (by omega) (u := tg [41]) ?_ (by rw [isT_tg]; decide)
   refine Ev.name h _ ?_
   refine Ev.wantG [44] _ ?_
   exact Ev.bind ((back k hk).ahead hk (by omega) [41] (by decide) (by decide) _) (Ev.ok _ _ _)
 | .sum n c a b, h => Back.of_u (by simp [lvlX]) fun d rest hd _ => by
  obtain ⟨h, hc, ha, hb⟩ := h
  have e : toks0 (.sum n c a b) ++ rest = tw w_sum :: (tg [40] :: (tw n :: tg [46] :: tw c :: tg [44] :: (toks0 a ++ tg [44] :: (toks0 b ++ tg [41] :: rest)))) := by simp [toks0]
  have hd' : d + (max (nd a) (nd b) + 1) ≤ 16 := hd
  rw [e]
  refine Ev.operand (by rw [isT_tw]; decide) (by rw [isT_tw]; decide) ?_
  refine Ev.step (q := fun f => around [40] [41] d (tg [40] :: (tw n :: tg [46] :: tw c :: tg [44] :: (toks0 a ++ tg [44] :: (toks0 b ++ tg [41] :: rest)))) fun d r => (pName r).bind fun n r => (want r [46]).bind fun _ r => (pName r).bind fun c r => (want r [44]).bind fun _ r => (pExpr f 0 d r).bind fun a r => (want r [44]).bind fun _ r => (pExpr f 0 d r).bind fun b r => .ok (Ex.sum n c a b) r) (fun f => ?_) ?_
  ·rw [pOperand, pLit_word (by decide) (by decide), isT_tw, isT_tw, isT_tw]
   rfl
  ·refine Ev.around (t := tg [40]) (k := fun f d r => (pName r).bind fun n r => (want r [46]).bind fun _ r => (pName r).bind fun c r => (want r [44]).bind fun _ r => (pExpr f 0 d r).bind fun a r => (want r [44]).bind fun _ r => (pExpr f 0 d r).bind fun b r => .ok (Ex.sum n c a b) r) (by rw [isT_tg]; decide) (by omega) (u := tg [41]) ?_ (by rw [isT_tg]; decide)
   refine Ev.name h _ ?_
   refine Ev.wantG [46] _ ?_
   refine Ev.name hc _ ?_
   refine Ev.wantG [44] _ ?_
   refine Ev.bind ((back a ha).ahead ha (by omega) [44] (by decide) (by decide) _) ?_
   refine Ev.wantG [44] _ ?_
   exact Ev.bind ((back b hb).ahead hb (by omega) [41] (by decide) (by decide) _) (Ev.ok _ _ _)
 | .cnt n a b, h => Back.of_u (by simp [lvlX]) fun d rest hd _ => by
  obtain ⟨h, ha, hb⟩ := h
  have e : toks0 (.cnt n a b) ++ rest = tw w_count :: (tg [40] :: (tw n :: tg [44] :: (toks0 a ++ tg [44] :: (toks0 b ++ tg [41] :: rest)))) := by simp [toks0]
  have hd' : d + (max (nd a) (nd b) + 1) ≤ 16 := hd
  rw [e]
  refine Ev.operand (by rw [isT_tw]; decide) (by rw [isT_tw]; decide) ?_
  refine Ev.step (q := fun f => around [40] [41] d (tg [40] :: (tw n :: tg [44] :: (toks0 a ++ tg [44] :: (toks0 b ++ tg [41] :: rest)))) fun d r => (pName r).bind fun n r => (want r [44]).bind fun _ r => (pExpr f 0 d r).bind fun a r => (want r [44]).bind fun _ r => (pExpr f 0 d r).bind fun b r => .ok (Ex.cnt n a b) r) (fun f => ?_) ?_
  ·rw [pOperand, pLit_word (by decide) (by decide), isT_tw, isT_tw, isT_tw, isT_tw]
   rfl
  ·refine Ev.around (t := tg [40]) (k := fun f d r => (pName r).bind fun n r => (want r [44]).bind fun _ r => (pExpr f 0 d r).bind fun a r => (want r [44]).bind fun _ r => (pExpr f 0 d r).bind fun b r => .ok (Ex.cnt n a b) r) (by rw [isT_tg]; decide) (by omega) (u := tg [41]) ?_ (by rw [isT_tg]; decide)
   refine Ev.name h _ ?_
   refine Ev.wantG [44] _ ?_
   refine Ev.bind ((back a ha).ahead ha (by omega) [44] (by decide) (by decide) _) ?_
   refine Ev.wantG [44] _ ?_
   exact Ev.bind ((back b hb).ahead hb (by omega) [41] (by decide) (by decide) _) (Ev.ok _ _ _)
 | .un op a, h => Back.of_u (by simp [lvlX]) fun d rest hd hr => by
  obtain ⟨ho, ha⟩ := h
  have hd' : d + (ndb a 6 (nd a) + 1) ≤ 16 := hd
  have hu := (back a ha).ux ha (d := d + 1) (by omega) rest hr
  have hx : br a 6 (toks0 a) = toksX a 6 := rfl
  rcases ho with ho | ho <;> subst ho
  ·have e : toks0 (.un 13 a) ++ rest = tg [33] :: (toksX a 6 ++ rest) := by simp [toks0, hx]
   rw [e]
   refine Ev.step (q := fun f => (pUnary f (d + 1) (toksX a 6 ++ rest)).bind fun x r => .ok (Ex.un 13 x) r) (fun f => ?_) (Ev.bind hu (Ev.ok _ _ _))
   rw [pUnary, isT_tg, if_pos (by decide), if_neg (by omega)]
   rfl
  ·have e : toks0 (.un 14 a) ++ rest = tg [45] :: (toksX a 6 ++ rest) := by simp [toks0, hx]
   rw [e]
   refine Ev.step (q := fun f => (pUnary f (d + 1) (toksX a 6 ++ rest)).bind fun x r => .ok (Ex.un 14 x) r) (fun f => ?_) (Ev.bind hu (Ev.ok _ _ _))
   rw [pUnary, isT_tg, if_neg (by decide), isT_tg, if_pos (by decide), if_neg (by omega)]
   rfl
 | .bin op a b, h => by
  obtain ⟨ho, ha, hb⟩ := h
  obtain ⟨l1, l5⟩ := lvlS_bound ho
  refine ⟨fun d rest h6 => absurd h6 (by simp only [lvlX]; omega), fun lvl d rest R hd hl hop hr k => ?_⟩
  have hd' : d + max (ndb a (lvlS op) (nd a)) (ndb b (lvlS op + 1) (nd b)) ≤ 16 := hd
  have hl' : lvl < lvlS op := hl
  have hop' : (opT rest).2 ≤ lvlS op := hop
  have e : toks0 (.bin op a b) ++ rest = toksX a (lvlS op) ++ tg (signS op) :: (toksX b (lvlS op + 1) ++ rest) := by simp [toks0, toksX]
  rw [e]
  refine (back a ha).ex ha hl' (by omega) _ (fun h => by rw [opT_sign ho]; exact h) ?_ ?_
  ·rw [isT_tg]
   have : op = 1 ∨ op = 2 ∨ op = 3 ∨ op = 4 ∨ op = 5 ∨ op = 6 ∨ op = 7 ∨ op = 8 ∨ op = 9 ∨ op = 10 ∨ op = 11 ∨ op = 12 := by omega
   rcases this with h | h | h | h | h | h | h | h | h | h | h | h <;> subst h <;> decide
  ·refine Ev.step (q := fun f => (pExpr f (lvlS op) d (toksX b (lvlS op + 1) ++ rest)).bind fun y r => pLoop f lvl d (.bin op a y) r) (fun f => ?_) ?_
   ·rw [pLoop, opT_sign ho]
    rw [if_neg (by dsimp only; omega)]
    rfl
   ·refine Ev.bind ((back b hb).ex hb (Nat.lt_add_one (lvlS op)) (by omega) rest (fun h => by omega) hr (Ev.stop hop')) k
end Go.Proofs.YtnbmpfdffoidaaaGreatDoor.Y
