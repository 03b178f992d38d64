/- Texts of the proof, joined: SynMem, SynPs, SchedP. -/
import Derived.Test.YtnbmpfdffoidaaaGreatSp01
import Derived.Test.YtnbmpfdffoidaaaGreatSp05
import Derived.Test.YtnbmpfdffoidaaaGreatSp06
import Derived.Test.YtnbmpfdffoidaaaGreatSp07
import Derived.Test.YtnbmpfdffoidaaaGreatSp08
set_option linter.unusedVariables false
set_option linter.unusedSimpArgs false
set_option maxHeartbeats 8000000
set_option maxRecDepth 100000
namespace Go.Proofs.YtnbmpfdffoidaaaGreat.Y
open Go.RowKit O V S
structure Mod (bs : List Nat) (w w' : World) : Prop where
 os : w'.os = w.os
 tape : w'.tape = w.tape
 output : w'.output = w.output
 size : w.heap.size ≤ w'.heap.size
 block : ∀ k, k < w.heap.size → k ∉ bs → w'.heap[k]? = w.heap[k]?
theorem Mod.refl (bs : List Nat) (w : World) : Mod bs w w := ⟨rfl, rfl, rfl, Nat.le_refl _, fun _ _ _ => rfl⟩
theorem Mod.trans {bs cs : List Nat} {a b c : World} (h : Mod bs a b) (k : Mod cs b c) (hs : ∀ x ∈ cs, x ∈ bs ∨ a.heap.size ≤ x) : Mod bs a c :=
 ⟨k.os.trans h.os, k.tape.trans h.tape, k.output.trans h.output, Nat.le_trans h.size k.size, fun i hi hn =>
  (k.block i (Nat.lt_of_lt_of_le hi h.size) (fun hx => (hs i hx).elim hn (fun e => by omega))).trans (h.block i hi hn)⟩
theorem Mod.then {bs : List Nat} {a b c : World} (h : Mod bs a b) (k : Mod bs b c) : Mod bs a c := h.trans k fun _ hx => .inl hx
theorem Mod.more {bs cs : List Nat} {a b : World} (h : Mod bs a b) (hs : ∀ x ∈ bs, x ∈ cs ∨ a.heap.size ≤ x) : Mod cs a b :=
 ⟨h.os, h.tape, h.output, h.size, fun i hi hn => h.block i hi (fun hx => (hs i hx).elim hn (fun e => by omega))⟩
theorem Mod.of_below {bs : List Nat} {a b : World} (h : Below a.heap.size a b) : Mod bs a b := ⟨h.os, h.tape, h.output, h.size, fun i hi _ => h.block i hi⟩
theorem Mod.below {bs : List Nat} {a b : World} (h : Mod bs a b) {B : Nat} (hB : B ≤ a.heap.size) (hs : ∀ x ∈ bs, B ≤ x) : Below B a b :=
 ⟨h.os, h.tape, h.output, h.size, fun k hk => h.block k (by omega) (fun hx => by have := hs k hx; omega)⟩
theorem Mod.alloc {bs : List Nat} {a w : World} (h : Mod bs a w) (o : Obj) : Mod bs a (w.alloc o) := h.then (.of_below ((Below.refl _ _).alloc (Nat.le_refl _) _))
theorem Mod.drew {bs : List Nat} {a w : World} (h : Mod bs a w) : Mod bs a w.drew := ⟨h.os, h.tape, h.output, h.size, h.block⟩
theorem Mod.set {bs : List Nat} {a w : World} (h : Mod bs a w) {b i : Nat} (hb : b ∈ bs ∨ a.heap.size ≤ b) (v : Value) : Mod bs a (w.setCell ⟨b, i, none⟩ v) :=
 h.trans (cs := [b]) ⟨rfl, rfl, rfl, by simp, fun i _ hi => Below.heap_setCell _ _ _ _ (fun e => hi (by simp [e]))⟩ (fun x hx => by simp at hx; rw [hx]; exact hb)
theorem Mod.grown {bs : List Nat} {a w w' : World} {row : Option Nat} (h : Mod bs a w) (hg : w.grownBy w' row) (hr : ∀ k, row = some k → k ∈ bs ∨ a.heap.size ≤ k) : Mod bs a w' :=
 ⟨hg.os.trans h.os, hg.tape.trans h.tape, hg.output.trans h.output, Nat.le_trans h.size hg.size, fun i hi hn =>
  (hg.block i (Nat.lt_of_lt_of_le hi h.size) (fun e => (hr i e.symm).elim hn (fun e => by omega))).trans (h.block i hi hn)⟩
theorem Mod.box {bs : List Nat} {w w' : World} {b : Nat} {o : Obj} (h : Mod bs w w') (hb : w.heap[b]? = some o) (hn : b ∉ bs) : w'.heap[b]? = some o :=
 (h.block b (Array.getElem?_eq_some_iff.1 hb).1 hn).trans hb
structure Row (w : World) (S : Nat → Prop) (size : Nat) (A : Option Addr) (n c : Nat) (xs : List Value) : Prop where
 len : xs.length = n * size
 cap : n ≤ c ∧ c ≤ 9223372036854775807
 pos : 0 < xs.length → ∃ b off, A = some ⟨b, off, none⟩ ∧ S b ∧ ∀ j, j < xs.length → w.cell? ⟨b, off + j, none⟩ = xs[j]?
section
variable {w w' : World} {S S' : Nat → Prop} {size n c : Nat} {A : Option Addr} {xs : List Value}
theorem Row.keep (h : Row w S size A n c xs) (hk : ∀ b, S b → w'.heap[b]? = w.heap[b]?) : Row w' S size A n c xs :=
 ⟨h.len, h.cap, fun hp => by
  obtain ⟨b, off, e, hb, hc⟩ := h.pos hp
  exact ⟨b, off, e, hb, fun j hj => (World.cell?_of_block (a := ⟨b, off + j, none⟩) (hk b hb)).trans (hc j hj)⟩⟩
theorem Row.mono (h : Row w S size A n c xs) (hs : ∀ b, S b → S' b) : Row w S' size A n c xs :=
 ⟨h.len, h.cap, fun hp => by
  obtain ⟨b, off, e, hb, hc⟩ := h.pos hp
  exact ⟨b, off, e, hs b hb, hc⟩⟩
theorem Row.rd (h : Row w S size A n c xs) {B : Nat} (hs : ∀ b, S b → b < B) : Rd w B size A n xs :=
 ⟨h.len, fun hp => by
  obtain ⟨b, off, e, hb, hc⟩ := h.pos hp
  exact ⟨b, off, e, hs b hb, hc⟩⟩
theorem Row.nil_ : Row w S size none 0 0 [] := ⟨by simp, by omega, fun h => absurd h (by simp)⟩
theorem Row.of_own {base : Nat} {e : TypeId} (h : w.ownsRow base e size (.slice A n c) n xs) (hS : ∀ g, (Value.slice A n c).ownBlock = some g → S g) : Row w S size A n c xs := by
 have hr := Rd.of_own h
 refine ⟨h.1, ?_, fun hp => ?_⟩
 ·rcases h.2 with ⟨hv, h0⟩ | ⟨g, cap, cur, hv, _, _, hnc, hcm, _⟩
  ·injection hv with _ _ hc
   omega
  ·injection hv with _ _ hc
   unfold maxLen at hcm
   omega
 ·obtain ⟨b, off, e, hb, hc⟩ := hr.2 hp
  exact ⟨b, off, e, hS b (by rw [e]; rfl), hc⟩
end
abbrev sv (s : List UInt8) : Value := .string ⟨s.toArray⟩
abbrev nv (n : Int) : Value := .int .i64 n
def hdK : Ex → Int
 | .val _ => 1
 | .var _ => 2
 | .cell _ _ _ => 3
 | .has _ _ => 4
 | .sum _ _ _ _ => 5
 | .cnt _ _ _ => 6
 | .un _ _ => 7
 | .bin _ _ _ => 8
def hdV : Ex → Val
 | .val v => v
 | _ => zv
def hdN : Ex → List UInt8
 | .var n => n
 | .cell n _ _ => n
 | .has n _ => n
 | .sum n _ _ _ => n
 | .cnt n _ _ => n
 | _ => []
def hdC : Ex → List UInt8
 | .cell _ c _ => c
 | .sum _ c _ _ => c
 | _ => []
def hdO : Ex → Nat
 | .un op _ => op
 | .bin op _ _ => op
 | _ => 0
def parts : Ex → List Ex
 | .cell _ _ k => [k]
 | .has _ k => [k]
 | .sum _ _ a b => [a, b]
 | .cnt _ a b => [a, b]
 | .un _ a => [a]
 | .bin _ a b => [a, b]
 | _ => []
theorem Ex.ind {P : Ex → Prop} (h : ∀ x, (∀ y ∈ parts x, P y) → P x) : ∀ x, P x
 | .val v => h _ (fun _ hy => by cases hy)
 | .var n => h _ (fun _ hy => by cases hy)
 | .cell n c k => h _ (fun y hy => by
  have := Ex.ind h k
  simp [parts] at hy; rw [hy]; exact this)
 | .has n k => h _ (fun y hy => by
  have := Ex.ind h k
  simp [parts] at hy; rw [hy]; exact this)
 | .sum n c a b => h _ (fun y hy => by
  have h1 := Ex.ind h a
  have h2 := Ex.ind h b
  simp [parts] at hy; rcases hy with e | e <;> rw [e] <;> assumption)
 | .cnt n a b => h _ (fun y hy => by
  have h1 := Ex.ind h a
  have h2 := Ex.ind h b
  simp [parts] at hy; rcases hy with e | e <;> rw [e] <;> assumption)
 | .un op a => h _ (fun y hy => by
  have := Ex.ind h a
  simp [parts] at hy; rw [hy]; exact this)
 | .bin op a b => h _ (fun y hy => by
  have h1 := Ex.ind h a
  have h2 := Ex.ind h b
  simp [parts] at hy; rcases hy with e | e <;> rw [e] <;> assumption)
def exC (x : Ex) (args : Value) (p q r : Int) : List Value :=
 [nv (hdK x), nv (hdV x).k, nv (hdV x).n, sv (hdV x).s, sv (hdN x), sv (hdC x), nv (hdO x : Nat), args, nv p, nv q, nv r]
def Nd (w : World) (S : Nat → Prop) (x : Ex) (n : Nat) (P : List Value → Prop) (vs : List Value) : Prop :=
 ∃ A c es p q r, vs = exC x (.slice A n c) p q r ∧ Row w S 11 A n c es ∧ P es
def ExR (w : World) (S : Nat → Prop) : Ex → List Value → Prop
 | .val v, vs => Nd w S (.val v) 0 (fun es => es = []) vs
 | .var n, vs => Nd w S (.var n) 0 (fun es => es = []) vs
 | .cell n c k, vs => Nd w S (.cell n c k) 1 (fun es => ∃ us ys, es = us ++ ys ∧ ExR w S k us ∧ ys = []) vs
 | .has n k, vs => Nd w S (.has n k) 1 (fun es => ∃ us ys, es = us ++ ys ∧ ExR w S k us ∧ ys = []) vs
 | .sum n c a b, vs => Nd w S (.sum n c a b) 2 (fun es => ∃ us ys, es = us ++ ys ∧ ExR w S a us ∧ ∃ us' zs, ys = us' ++ zs ∧ ExR w S b us' ∧ zs = []) vs
 | .cnt n a b, vs => Nd w S (.cnt n a b) 2 (fun es => ∃ us ys, es = us ++ ys ∧ ExR w S a us ∧ ∃ us' zs, ys = us' ++ zs ∧ ExR w S b us' ∧ zs = []) vs
 | .un op a, vs => Nd w S (.un op a) 1 (fun es => ∃ us ys, es = us ++ ys ∧ ExR w S a us ∧ ys = []) vs
 | .bin op a b, vs => Nd w S (.bin op a b) 2 (fun es => ∃ us ys, es = us ++ ys ∧ ExR w S a us ∧ ∃ us' zs, ys = us' ++ zs ∧ ExR w S b us' ∧ zs = []) vs
section
variable {w w' : World} {S S' : Nat → Prop}
theorem ExR_eq (x : Ex) (vs : List Value) : ExR w S x vs ↔ Nd w S x (parts x).length (Reps (ExR w S) (parts x)) vs := by
 cases x <;> exact Iff.rfl
theorem ExR.size : ∀ (x : Ex) (vs : List Value), ExR w S x vs → vs.length = 11 := fun x vs h => by
 obtain ⟨A, c, es, p, q, r, rfl, _⟩ := (ExR_eq x vs).1 h
 rfl
theorem reps_impM {α : Type} {rep rep' : α → List Value → Prop} : ∀ {l : List α} {xs : List Value}, (∀ a ∈ l, ∀ vs, rep a vs → rep' a vs) → Reps rep l xs → Reps rep' l xs
 | [], _, _, h => h
 | a :: _, _, hi, ⟨vs, ys, e, h, k⟩ => ⟨vs, ys, e, hi a (by simp) _ h, reps_impM (fun b hb => hi b (by simp [hb])) k⟩
theorem ExR.keep (hk : ∀ b, S b → w'.heap[b]? = w.heap[b]?) : ∀ (x : Ex) (vs : List Value), ExR w S x vs → ExR w' S x vs :=
 Ex.ind fun x ih vs h => by
  obtain ⟨A, c, es, p, q, r, e, h1, h2⟩ := (ExR_eq x vs).1 h
  exact (ExR_eq x vs).2 ⟨A, c, es, p, q, r, e, h1.keep hk, reps_impM ih h2⟩
theorem ExR.mono (hs : ∀ b, S b → S' b) : ∀ (x : Ex) (vs : List Value), ExR w S x vs → ExR w S' x vs :=
 Ex.ind fun x ih vs h => by
  obtain ⟨A, c, es, p, q, r, e, h1, h2⟩ := (ExR_eq x vs).1 h
  exact (ExR_eq x vs).2 ⟨A, c, es, p, q, r, e, h1.mono hs, reps_impM ih h2⟩
end
def Sts.list : Sts → List St
 | .nil => []
 | .cons s r => s :: r.list
theorem Sts.list_len : ∀ b : Sts, b.list.length = b.len
 | .nil => rfl
 | .cons s r => by rw [Sts.list, List.length_cons, Sts.list_len r]; rfl
theorem Sts.list_snoc : ∀ (b : Sts) (s : St), (b.snoc s).list = b.list ++ [s]
 | .nil, _ => rfl
 | .cons t r, s => by rw [Sts.snoc, Sts.list, Sts.list_snoc r s]; rfl
def stK : St → Int
 | .let_ _ _ => 1
 | .set _ _ => 2
 | .put _ _ _ _ => 3
 | .del _ _ => 4
 | .if_ _ _ _ => 5
 | .loop _ _ _ => 6
 | .each _ _ _ _ _ _ => 7
 | .roll => 8
 | .emit _ => 9
def stN : St → List UInt8
 | .let_ n _ => n
 | .set n _ => n
 | .loop _ n _ => n
 | .each n _ _ _ _ _ => n
 | _ => []
def stT : St → List UInt8
 | .put t _ _ _ => t
 | .del t _ => t
 | .each _ t _ _ _ _ => t
 | _ => []
def stC : St → List UInt8
 | .put _ c _ _ => c
 | _ => []
def stI : St → Int
 | .loop k _ _ => k
 | .each _ _ _ _ k _ => k
 | _ => 0
def stA : St → List Ex
 | .let_ _ e => [e]
 | .set _ e => [e]
 | .put _ _ k e => [k, e]
 | .del _ k => [k]
 | .if_ e _ _ => [e]
 | .each _ _ lo hi _ _ => [lo, hi]
 | .emit e => [e]
 | _ => []
def stB : St → Sts
 | .if_ _ b _ => b
 | .loop _ _ b => b
 | .each _ _ _ _ _ b => b
 | _ => .nil
def stE : St → Sts
 | .if_ _ _ e => e
 | _ => .nil
def stV (s : St) (a b e : Value) (p q r : Int) : List Value := [nv (stK s), sv (stN s), sv (stT s), sv (stC s), nv (stI s), a, b, e, nv p, nv q, nv r]
def SN (w : World) (S : Nat → Prop) (s : St) (P Q : List Value → Prop) (vs : List Value) : Prop :=
 ∃ A c es B d bs E f fs p q r, vs = stV s (.slice A (stA s).length c) (.slice B (stB s).len d) (.slice E (stE s).len f) p q r ∧
  (Row w S 11 A (stA s).length c es ∧ Reps (ExR w S) (stA s) es) ∧ (Row w S 11 B (stB s).len d bs ∧ P bs) ∧ Row w S 11 E (stE s).len f fs ∧ Q fs
mutual
def StR (w : World) (S : Nat → Prop) : St → List Value → Prop
 | .let_ n e, vs => SN w S (.let_ n e) (fun x => x = []) (fun x => x = []) vs
 | .set n e, vs => SN w S (.set n e) (fun x => x = []) (fun x => x = []) vs
 | .put t c k e, vs => SN w S (.put t c k e) (fun x => x = []) (fun x => x = []) vs
 | .del t k, vs => SN w S (.del t k) (fun x => x = []) (fun x => x = []) vs
 | .if_ e b els, vs => SN w S (.if_ e b els) (fun x => StsR w S b x) (fun x => StsR w S els x) vs
 | .loop k n b, vs => SN w S (.loop k n b) (fun x => StsR w S b x) (fun x => x = []) vs
 | .each n t lo hi k b, vs => SN w S (.each n t lo hi k b) (fun x => StsR w S b x) (fun x => x = []) vs
 | .roll, vs => SN w S .roll (fun x => x = []) (fun x => x = []) vs
 | .emit e, vs => SN w S (.emit e) (fun x => x = []) (fun x => x = []) vs
def StsR (w : World) (S : Nat → Prop) : Sts → List Value → Prop
 | .nil, xs => xs = []
 | .cons s r, xs => ∃ vs ys, xs = vs ++ ys ∧ StR w S s vs ∧ StsR w S r ys
end
section
variable {w w' : World} {S S' : Nat → Prop}
theorem StsR_nil (xs : List Value) : StsR w S .nil xs ↔ xs = [] := by rw [StsR]
theorem StR_eq (s : St) (vs : List Value) : StR w S s vs ↔ SN w S s (StsR w S (stB s)) (StsR w S (stE s)) vs := by
 have h : StsR w S .nil = fun x => x = [] := funext fun x => propext (StsR_nil x)
 cases s <;> simp only [StR, stB, stE, h]
theorem StR.size : ∀ (s : St) (vs : List Value), StR w S s vs → vs.length = 11 := fun s vs h => by
 obtain ⟨A, c, es, B, d, bs, E, f, fs, p, q, r, rfl, _⟩ := (StR_eq s vs).1 h
 rfl
theorem StsR_reps : ∀ (b : Sts) (xs : List Value), StsR w S b xs ↔ Reps (StR w S) b.list xs
 | .nil, xs => StsR_nil xs
 | .cons s r, xs => by
  rw [StsR]
  exact ⟨fun ⟨vs, ys, e, h, k⟩ => ⟨vs, ys, e, h, (StsR_reps r ys).1 k⟩, fun ⟨vs, ys, e, h, k⟩ => ⟨vs, ys, e, h, (StsR_reps r ys).2 k⟩⟩
mutual
theorem St.indM {P : St → Prop} {Q : Sts → Prop} (h : ∀ s, Q (stB s) → Q (stE s) → P s) (h0 : Q .nil) (h1 : ∀ s r, P s → Q r → Q (.cons s r)) : ∀ s, P s
 | .let_ n e => h _ h0 h0
 | .set n e => h _ h0 h0
 | .put t c k e => h _ h0 h0
 | .del t k => h _ h0 h0
 | .if_ e b els => h _ (Sts.indM h h0 h1 b) (Sts.indM h h0 h1 els)
 | .loop k n b => h _ (Sts.indM h h0 h1 b) h0
 | .each n t lo hi k b => h _ (Sts.indM h h0 h1 b) h0
 | .roll => h _ h0 h0
 | .emit e => h _ h0 h0
theorem Sts.indM {P : St → Prop} {Q : Sts → Prop} (h : ∀ s, Q (stB s) → Q (stE s) → P s) (h0 : Q .nil) (h1 : ∀ s r, P s → Q r → Q (.cons s r)) : ∀ b, Q b
 | .nil => h0
 | .cons s r => h1 s r (St.indM h h0 h1 s) (Sts.indM h h0 h1 r)
end
theorem StsR.keep (hk : ∀ b, S b → w'.heap[b]? = w.heap[b]?) : ∀ (b : Sts) (xs : List Value), StsR w S b xs → StsR w' S b xs :=
 Sts.indM (P := fun s => ∀ vs, StR w S s vs → StR w' S s vs) (fun s hb he vs h => by
  obtain ⟨A, c, es, B, d, bs, E, f, fs, p, q, r, e, ⟨h1, h2⟩, ⟨h3, h4⟩, h5, h6⟩ := (StR_eq s vs).1 h
  exact (StR_eq s vs).2 ⟨A, c, es, B, d, bs, E, f, fs, p, q, r, e, ⟨h1.keep hk, h2.imp fun x us => ExR.keep hk x us⟩, ⟨h3.keep hk, hb _ h4⟩, h5.keep hk, he _ h6⟩)
  (fun xs h => (StsR_nil xs).2 ((StsR_nil xs).1 h)) (fun s r hs hr xs h => by
   rw [StsR] at h ⊢
   obtain ⟨vs, ys, e, h1, h2⟩ := h
   exact ⟨vs, ys, e, hs _ h1, hr _ h2⟩)
theorem StR.keep (hk : ∀ b, S b → w'.heap[b]? = w.heap[b]?) (s : St) (vs : List Value) (h : StR w S s vs) : StR w' S s vs := by
  obtain ⟨A, c, es, B, d, bs, E, f, fs, p, q, r, e, ⟨h1, h2⟩, ⟨h3, h4⟩, h5, h6⟩ := (StR_eq s vs).1 h
  exact (StR_eq s vs).2 ⟨A, c, es, B, d, bs, E, f, fs, p, q, r, e, ⟨h1.keep hk, h2.imp fun x us => ExR.keep hk x us⟩, ⟨h3.keep hk, StsR.keep hk _ _ h4⟩, h5.keep hk, StsR.keep hk _ _ h6⟩
theorem StsR.mono (hs : ∀ b, S b → S' b) : ∀ (b : Sts) (xs : List Value), StsR w S b xs → StsR w S' b xs :=
 Sts.indM (P := fun s => ∀ vs, StR w S s vs → StR w S' s vs) (fun s hb he vs h => by
  obtain ⟨A, c, es, B, d, bs, E, f, fs, p, q, r, e, ⟨h1, h2⟩, ⟨h3, h4⟩, h5, h6⟩ := (StR_eq s vs).1 h
  exact (StR_eq s vs).2 ⟨A, c, es, B, d, bs, E, f, fs, p, q, r, e, ⟨h1.mono hs, h2.imp fun x us => ExR.mono hs x us⟩, ⟨h3.mono hs, hb _ h4⟩, h5.mono hs, he _ h6⟩)
  (fun xs h => (StsR_nil xs).2 ((StsR_nil xs).1 h)) (fun s r h3 hr xs h => by
   rw [StsR] at h ⊢
   obtain ⟨vs, ys, e, h1, h2⟩ := h
   exact ⟨vs, ys, e, h3 _ h1, hr _ h2⟩)
theorem StR.mono (hs : ∀ b, S b → S' b) (s : St) (vs : List Value) (h : StR w S s vs) : StR w S' s vs := by
  obtain ⟨A, c, es, B, d, bs, E, f, fs, p, q, r, e, ⟨h1, h2⟩, ⟨h3, h4⟩, h5, h6⟩ := (StR_eq s vs).1 h
  exact (StR_eq s vs).2 ⟨A, c, es, B, d, bs, E, f, fs, p, q, r, e, ⟨h1.mono hs, h2.imp fun x us => ExR.mono hs x us⟩, ⟨h3.mono hs, StsR.mono hs _ _ h4⟩, h5.mono hs, StsR.mono hs _ _ h6⟩
end
def ClR (c : Cl) (vs : List Value) : Prop := vs = [sv c.name, nv c.k, nv c.m]
theorem ClR.size : ∀ (c : Cl) (vs : List Value), ClR c vs → vs.length = 3 := by rintro c vs rfl; rfl
def TbR (w : World) (S : Nat → Prop) (t : Tb) (vs : List Value) : Prop :=
 ∃ A c es, vs = [sv t.name, nv t.rows, .slice A t.cols.length c] ∧ Row w S 3 A t.cols.length c es ∧ Reps ClR t.cols es
def PcR (w : World) (S : Nat → Prop) (x : Pc) (vs : List Value) : Prop :=
 ∃ A c es B d bs p q r, vs = [sv x.name, .slice A x.params.length c, .slice B x.body.len d, nv p, nv q, nv r] ∧ (Row w S 3 A x.params.length c es ∧ Reps ClR x.params es) ∧ Row w S 11 B x.body.len d bs ∧ StsR w S x.body bs
def WkR (w : World) (S : Nat → Prop) (k : Wk) (v : Value) : Prop :=
 ∃ A c es B d fs, v = .agg #[.slice A k.tables.length c, .slice B k.procs.length d] ∧ (Row w S 3 A k.tables.length c es ∧ Reps (TbR w S) k.tables es) ∧ Row w S 6 B k.procs.length d fs ∧ Reps (PcR w S) k.procs fs
section
variable {w w' : World} {S S' : Nat → Prop}
theorem TbR.size : ∀ (t : Tb) (vs : List Value), TbR w S t vs → vs.length = 3 := by rintro t vs ⟨A, c, es, rfl, _⟩; rfl
theorem PcR.size : ∀ (t : Pc) (vs : List Value), PcR w S t vs → vs.length = 6 := by rintro t vs ⟨A, c, es, B, d, bs, p, q, r, rfl, _⟩; rfl
theorem TbR.keep (hk : ∀ b, S b → w'.heap[b]? = w.heap[b]?) (t : Tb) (vs : List Value) : TbR w S t vs → TbR w' S t vs
 | ⟨A, c, es, e, h1, h2⟩ => ⟨A, c, es, e, h1.keep hk, h2⟩
theorem TbR.mono (hs : ∀ b, S b → S' b) (t : Tb) (vs : List Value) : TbR w S t vs → TbR w S' t vs
 | ⟨A, c, es, e, h1, h2⟩ => ⟨A, c, es, e, h1.mono hs, h2⟩
theorem PcR.keep (hk : ∀ b, S b → w'.heap[b]? = w.heap[b]?) (t : Pc) (vs : List Value) : PcR w S t vs → PcR w' S t vs
 | ⟨A, c, es, B, d, bs, p, q, r, e, ⟨h1, h2⟩, h3, h4⟩ => ⟨A, c, es, B, d, bs, p, q, r, e, ⟨h1.keep hk, h2⟩, h3.keep hk, StsR.keep hk _ _ h4⟩
theorem PcR.mono (hs : ∀ b, S b → S' b) (t : Pc) (vs : List Value) : PcR w S t vs → PcR w S' t vs
 | ⟨A, c, es, B, d, bs, p, q, r, e, ⟨h1, h2⟩, h3, h4⟩ => ⟨A, c, es, B, d, bs, p, q, r, e, ⟨h1.mono hs, h2⟩, h3.mono hs, StsR.mono hs _ _ h4⟩
theorem WkR.keep {k : Wk} {v : Value} (h : WkR w S k v) (hk : ∀ b, S b → w'.heap[b]? = w.heap[b]?) : WkR w' S k v := by
 obtain ⟨A, c, es, B, d, fs, e, ⟨h1, h2⟩, h3, h4⟩ := h
 exact ⟨A, c, es, B, d, fs, e, ⟨h1.keep hk, h2.imp fun t vs => TbR.keep hk t vs⟩, h3.keep hk, h4.imp fun t vs => PcR.keep hk t vs⟩
end
def In (lo : Nat) (w : World) (S : Nat → Prop) : Prop := ∀ b, S b → lo ≤ b ∧ b < w.heap.size
theorem In.keeps {lo : Nat} {w w' : World} {S : Nat → Prop} {bs : List Nat} (h : In lo w S) (m : Mod bs w w') (hb : ∀ x ∈ bs, x < lo) : ∀ b, S b → w'.heap[b]? = w.heap[b]? :=
 fun b hS => m.block b (h b hS).2 (fun hx => by have := hb b hx; have := (h b hS).1; omega)
theorem In.next {lo : Nat} {w w' : World} {S : Nat → Prop} (h : In lo w S) (hs : w.heap.size ≤ w'.heap.size) : In lo w' S := fun b hS => ⟨(h b hS).1, Nat.lt_of_lt_of_le (h b hS).2 hs⟩
theorem In.more {lo lo' : Nat} {w : World} {S : Nat → Prop} (h : In lo w S) (hs : lo' ≤ lo) : In lo' w S := fun b hS => ⟨Nat.le_trans hs (h b hS).1, (h b hS).2⟩
end Go.Proofs.YtnbmpfdffoidaaaGreat.Y
namespace Go.Proofs.YtnbmpfdffoidaaaGreat.Y
open Go.RowKit O V S X
def TkS (t : Tok) (vs : List Value) : Prop := ∃ p q r : Int, vs = [nv t.1, sv t.2.1, nv t.2.2.k, nv t.2.2.n, sv t.2.2.s, nv p, nv q, nv r]
theorem TkS.size : ∀ (t : Tok) (vs : List Value), TkS t vs → vs.length = 8 := by rintro t vs ⟨p, q, r, rfl⟩; rfl
theorem tks_core : ∀ {l : List Tk} {xs : List Value}, Reps TkD l xs → Reps TkS (l.map core) xs
 | [], _, h => h
 | t :: l, _, ⟨vs, ys, e, ⟨p, q, r, h⟩, k⟩ => ⟨vs, ys, e, ⟨p, q, r, h⟩, tks_core k⟩
structure TR (w : World) (B : Nat) (A : Option Addr) (n c : Nat) (l : List Tok) : Prop where
 ex : ∃ xs, Rd w B 8 A n xs ∧ Reps TkS l xs
 cap : n ≤ c ∧ c ≤ 9223372036854775807
theorem TR.len {w : World} {B : Nat} {A : Option Addr} {n c : Nat} {l : List Tok} (h : TR w B A n c l) : l.length = n := by
 obtain ⟨xs, h1, h2⟩ := h.ex
 exact h1.len_of TkS.size h2 (by omega)
theorem TR.keep {w w' : World} {B : Nat} {A : Option Addr} {n c : Nat} {l : List Tok} (h : TR w B A n c l) (hk : ∀ b, b < B → w'.heap[b]? = w.heap[b]?) : TR w' B A n c l := by
 obtain ⟨xs, h1, h2⟩ := h.ex
 exact ⟨⟨xs, h1.keep fun p hp => World.cell?_of_block (hk _ hp), h2⟩, h.cap⟩
theorem TR.head {w : World} {B : Nat} {A : Option Addr} {n c : Nat} {t : Tok} {l : List Tok} (h : TR w B A n c (t :: l)) :
  ∃ b off, ∃ p q r : Int, A = some ⟨b, off, none⟩ ∧ b < B ∧ ((w.cell? ⟨b, off, none⟩ = some (nv t.1) ∧ w.cell? ⟨b, off + 1, none⟩ = some (sv t.2.1)) ∧ w.cell? ⟨b, off + 2, none⟩ = some (nv t.2.2.k) ∧ w.cell? ⟨b, off + 3, none⟩ = some (nv t.2.2.n) ∧ w.cell? ⟨b, off + 4, none⟩ = some (sv t.2.2.s)) ∧
   (w.cell? ⟨b, off + 5, none⟩ = some (nv p) ∧ w.cell? ⟨b, off + 6, none⟩ = some (nv q)) ∧ w.cell? ⟨b, off + 7, none⟩ = some (nv r) := by
 obtain ⟨xs, h1, h2⟩ := h.ex
 obtain ⟨b, off, vs, e, hb, ⟨p, q, r, rfl⟩, hc⟩ := h1.elem TkS.size h2 (i := 0) (by simp) (by omega)
 simp only [Nat.zero_mul, Nat.add_zero] at hc
 exact ⟨b, off, p, q, r, e, hb, ⟨⟨hc 0 (by omega), hc 1 (by omega)⟩, hc 2 (by omega), hc 3 (by omega), hc 4 (by omega)⟩, ⟨hc 5 (by omega), hc 6 (by omega)⟩, hc 7 (by omega)⟩
theorem TR.tail {w : World} {B n c b off : Nat} {t : Tok} {l : List Tok} (h : TR w B (some ⟨b, off, none⟩) n c (t :: l)) {A' : Option Addr} (hA : c ≠ 1 → A' = some ⟨b, off + 8, none⟩) : TR w B A' (n - 1) (c - 1) l := by
 have hl := h.len
 have hcap := h.cap
 simp at hl
 obtain ⟨xs, h1, h2⟩ := h.ex
 obtain ⟨vs, ys, rfl, ⟨p, q, r, rfl⟩, h4⟩ := h2
 have h5 := h4.length TkS.size
 refine ⟨⟨ys, ⟨by omega, fun hp => ?_⟩, h4⟩, by omega⟩
 obtain ⟨b', off', e, hb, hc⟩ := h1.2 (by simp)
 injection e with e
 injection e with e1 e2
 subst e1 e2
 refine ⟨b, off + 8, hA (by omega), hb, fun j hj => ?_⟩
 have := hc (8 + j) (by simp; omega)
 rw [Nat.add_assoc, this, List.getElem?_append_right (by simp)]
 simp
structure PsA (w : World) (g : Nat) (A : Option Addr) (n c : Nat) (a b e : Int) (d : Nat) (l : List Tok) : Prop where
 box : w.heap[g]? = some (.cells #[.slice A n c, nv a, nv b, nv e, nv d] 64 (0, 0))
 row : TR w g A n c l
 ok : AllW l
 txt : ∀ t ∈ l, t.2.1.length ≤ 1000000
def Ps (w : World) (g d : Nat) (l : List Tok) : Prop := ∃ A n c a b e, PsA w g A n c a b e d l
theorem PsA.lt {w : World} {g d : Nat} {A : Option Addr} {n c : Nat} {a b e : Int} {l : List Tok} (h : PsA w g A n c a b e d l) : g < w.heap.size := (Array.getElem?_eq_some_iff.1 h.box).1
theorem Ps.lt {w : World} {g d : Nat} {l : List Tok} (h : Ps w g d l) : g < w.heap.size := by
 obtain ⟨A, n, c, a, b, e, h⟩ := h
 exact h.lt
theorem Ps.ok {w : World} {g d : Nat} {l : List Tok} (h : Ps w g d l) : AllW l := by
 obtain ⟨A, n, c, a, b, e, h⟩ := h
 exact h.ok
theorem Ps.keep {w w' : World} {g d : Nat} {l : List Tok} (h : Ps w g d l) (hk : ∀ b, b ≤ g → w'.heap[b]? = w.heap[b]?) : Ps w' g d l := by
 obtain ⟨A, n, c, a, b, e, h⟩ := h
 exact ⟨A, n, c, a, b, e, (hk g (Nat.le_refl _)).trans h.box, h.row.keep fun b hb => hk b (Nat.le_of_lt hb), h.ok, h.txt⟩
theorem Ps.mod {w w' : World} {g d : Nat} {l : List Tok} {bs : List Nat} (h : Ps w g d l) (m : Mod bs w w') (hb : ∀ x ∈ bs, g < x) : Ps w' g d l :=
 h.keep fun b hbg => m.block b (Nat.lt_of_le_of_lt hbg h.lt) fun hx => by have := hb b hx; omega
theorem Ps.next {w w' : World} {g d : Nat} {l : List Tok} (h : Ps w g d l) (b : Below w.heap.size w w') : Ps w' g d l := h.mod (bs := []) (.of_below b) (fun _ hx => by cases hx)
theorem Ps.set {w : World} {g d b i : Nat} {l : List Tok} (h : Ps w g d l) (hb : g < b) (v : Value) : Ps (w.setCell ⟨b, i, none⟩ v) g d l := h.keep fun k hk => Below.heap_setCell _ _ _ _ (by simp only; omega)
theorem PsA.cells {w : World} {g d : Nat} {A : Option Addr} {n c : Nat} {a b e : Int} {l : List Tok} (h : PsA w g A n c a b e d l) :
  (w.cell? ⟨g, 0, none⟩ = some (.slice A n c) ∧ w.cell? ⟨g, 4, none⟩ = some (nv d)) ∧ w.cell? ⟨g, 1, none⟩ = some (nv a) ∧ w.cell? ⟨g, 2, none⟩ = some (nv b) ∧ w.cell? ⟨g, 3, none⟩ = some (nv e) := by
 refine ⟨⟨?_, ?_⟩, ?_, ?_, ?_⟩ <;> (rw [Lib.cell_of_heap h.box]; rfl)
theorem PsA.free {w : World} {g d : Nat} {A : Option Addr} {n c : Nat} {a b e : Int} {l : List Tok} (h : PsA w g A n c a b e d l) : w.frozen? ⟨g, 0, none⟩ = false ∧ w.frozen? ⟨g, 4, none⟩ = false := ⟨Lib.frozen_of_heap h.box 0, Lib.frozen_of_heap h.box 4⟩
theorem is_any (g d : Nat) (l : List Tok) (s : List UInt8) (w : World) (h : Ps w g d l) : Calls Tryz.prog 36 #[.pointer (some ⟨g, 0, none⟩), sv s] w fun e w' => e = .returned (.bool (isT l s)) ∧ w' = w := by
 obtain ⟨A, n, c, ea, eb, ec, hp⟩ := h
 have hlen := hp.row.len
 have hcap := hp.row.cap
 obtain ⟨⟨x0, x4⟩, x1, x2, x3⟩ := hp.cells
 obtain ⟨xf0, xf4⟩ := hp.free
 have hlt := hp.lt
 have HP := Lib.hid hp
 cases l with
 | nil =>
  obtain rfl : n = 0 := by simpa using hlen.symm
  clear hp
  go_enter Tryz.func36, Tryz.ntmps36
  go_wp2_with fail
  go_ret
  exact ⟨rfl, rfl⟩
 | cons t l =>
  obtain ⟨b, off, tp, tq, tr, rfl, hb, ⟨⟨y0, y1⟩, y2, y3, y4⟩, ⟨y5, y6⟩, y7⟩ := hp.row.head
  obtain ⟨tk, tt, tv⟩ := t
  dsimp only at y0 y1 y2 y3 y4
  clear hp
  have hn : 0 < n := by simp at hlen; omega
  have d1 : decide ((n : Int) > 0) = true := by simp; omega
  go_enter Tryz.func36, Tryz.ntmps36
  go_wp2_with fail
  ·go_ret
   exact ⟨ret_bool (by unfold isT; rename_i q; dsimp only; rw [decide_eq_true q, Bool.true_and]; by_cases h3 : tk = 3 <;> simp [h3]), rfl⟩
  ·go_ret
   exact ⟨ret_bool (by unfold isT; rename_i q; dsimp only; rw [decide_eq_false q, Bool.false_and]), rfl⟩
def flt (er p q r : Int) : Value := .iface 60 (.agg #[nv er, nv p, nv q, nv r])
def Bad (e : Ending) : Prop := ∃ er p q r : Int, er ≠ 0 ∧ e = .panicked [{ v := flt er p q r, recovered := false }]
def Out {α : Type} (bs : List Nat) (g d : Nat) (w : World) (R : Res α) (good : α → World → Value → Prop) (e : Ending) (w' : World) : Prop :=
 Mod bs w w' ∧ match R with
 | .ok a l => Ps w' g d l ∧ ∃ v, e = .returned v ∧ good a w' v
 | .bad => Bad e
 | .oof => False
theorem here_any (g d : Nat) (l : List Tok) (w : World) (h : Ps w g d l) : Calls Tryz.prog 72 #[.pointer (some ⟨g, 0, none⟩)] w fun e w' => (∃ p q r : Int, e = .returned (.agg #[nv p, nv q, nv r])) ∧ Below w.heap.size w w' := by
 obtain ⟨A, n, c, ea, eb, ec, hp⟩ := h
 have hlen := hp.row.len
 have hcap := hp.row.cap
 obtain ⟨⟨x0, x4⟩, x1, x2, x3⟩ := hp.cells
 obtain ⟨xf0, xf4⟩ := hp.free
 have hlt := hp.lt
 have HP := Lib.hid hp
 have hne : g ≠ w.heap.size := by omega
 cases l with
 | nil =>
  obtain rfl : n = 0 := by simpa using hlen.symm
  clear hp
  go_enter Tryz.func72, Tryz.ntmps72
  go_wp2_with fail
  refine bodyPost_ret (v := pv ea eb ec) (by simp [results, Tryz.results72, go_sem, pv]) rfl ?_
  refine ⟨⟨_, _, _, rfl⟩, ?_⟩
  repeat (first | (with_reducible exact Below.refl _ _) | (with_reducible assumption) | refine Below.setCell ?_ (by simp <;> omega) _ | refine Below.alloc ?_ (by simp <;> omega) _ | refine Below.drew ?_)
 | cons t l =>
  obtain ⟨b, off, tp, tq, tr, rfl, hb, ⟨⟨y0, y1⟩, y2, y3, y4⟩, ⟨y5, y6⟩, y7⟩ := hp.row.head
  obtain ⟨tk, tt, tv⟩ := t
  dsimp only at y0 y1 y2 y3 y4
  clear hp
  have hn : 0 < n := by simp at hlen; omega
  have hbw : b < w.heap.size := by omega
  have hn0 : n ≠ 0 := by omega
  go_enter Tryz.func72, Tryz.ntmps72
  go_wp2_with fail
  refine bodyPost_ret (v := pv tp tq tr) (by simp [results, Tryz.results72, go_sem, pv]) rfl ?_
  refine ⟨⟨_, _, _, rfl⟩, ?_⟩
  repeat (first | (with_reducible exact Below.refl _ _) | (with_reducible assumption) | refine Below.setCell ?_ (by simp <;> omega) _ | refine Below.alloc ?_ (by simp <;> omega) _ | refine Below.drew ?_)
theorem wrong_any (g d : Nat) (l : List Tok) (w : World) (h : Ps w g d l) : Calls Tryz.prog 40 #[.pointer (some ⟨g, 0, none⟩)] w fun e w' => Bad e ∧ Below w.heap.size w w' := by
 have h0 := h
 obtain ⟨A, n, c, ea, eb, ec, hp⟩ := h
 have hlen := hp.row.len
 have hcap := hp.row.cap
 obtain ⟨⟨x0, x4⟩, x1, x2, x3⟩ := hp.cells
 obtain ⟨xf0, xf4⟩ := hp.free
 have hlt := hp.lt
 have HP := Lib.hid hp
 cases l with
 | nil =>
  obtain rfl : n = 0 := by simpa using hlen.symm
  clear hp h0
  go_enter Tryz.func40, Tryz.ntmps40
  go_wp2_with fail
  exact ⟨rfl, ⟨_, _, _, _, by decide, rfl⟩, Below.refl _ _⟩
 | cons t l =>
  have hn0 : n ≠ 0 := by simp at hlen; omega
  have HS := Lib.hid h0
  clear hp h0 x0 x1 x2 x3 x4 xf0 xf4 hcap hlen
  have x0 := HP.out.cells.1.1
  go_enter Tryz.func40, Tryz.ntmps40
  go_wp2_with fail
  refine (here_any g d (t :: l) _ HS.out).mono ?_; rintro e w1 ⟨⟨p, q, r, rfl⟩, b1⟩
  go_wp2_with fail
  exact ⟨rfl, ⟨_, _, _, _, by decide, rfl⟩, b1⟩
theorem room_any (g d n most : Nat) (l : List Tok) (w : World) (h : Ps w g d l) (hn : n ≤ 1000000) (hm : most ≤ 1000000) : Calls Tryz.prog 37 #[.pointer (some ⟨g, 0, none⟩), nv n, nv most] w (Out [g] g d w (room n most l) fun _ _ v => v = .tuple #[]) := by
 have HS := Lib.hid h
 clear h
 unfold room
 by_cases hle : most ≤ n
 ·rw [if_pos hle]
  have d1 : decide ((n : Int) ≥ (most : Int)) = true := by simp; omega
  have d2 : decide (most ≤ n) = true := by simp; omega
  clear hle hn hm
  go_enter Tryz.func37, Tryz.ntmps37
  go_wp2_with fail
  refine (here_any g d l _ HS.out).mono ?_; rintro e w1 ⟨⟨p, q, r, rfl⟩, b1⟩
  go_wp2_with fail
  exact ⟨rfl, .of_below b1, _, _, _, _, by decide, rfl⟩
 ·rw [if_neg hle]
  have d1 : decide ((n : Int) ≥ (most : Int)) = false := by simp; omega
  have d2 : decide (most ≤ n) = false := by simp; omega
  clear hle hn hm
  go_enter Tryz.func37, Tryz.ntmps37
  go_wp2_with fail
  go_end0
  exact ⟨.refl _ _, HS.out, _, rfl, rfl⟩
theorem heap_set {w : World} {b i : Nat} {cs : Array Value} {T : TypeId} (hb : w.heap[b]? = some (.cells cs T (0, 0))) (v : Value) : (w.setCell ⟨b, i, none⟩ v).heap[b]? = some (.cells (cs.setIfInBounds i v) T (0, 0)) := by
 simp [World.setCell, Array.getElem?_modify, hb]
theorem PsA.past {w W : World} {g d : Nat} {b off n c : Nat} {x y z : Int} {t : Tok} {l : List Tok} (h : PsA w g (some ⟨b, off, none⟩) n c x y z d (t :: l)) (B : Below w.heap.size w W) (i : Nat) (hi : i = 0) {A' : Option Addr} (hA : c ≠ 1 → A' = some ⟨b, off + 8, none⟩) {n' c' : Nat} (hn : n' = n - 1) (hc : c' = c - 1) :
  Mod [g] w (W.setCell ⟨g, i, none⟩ (.slice A' n' c')) ∧ Ps (W.setCell ⟨g, i, none⟩ (.slice A' n' c')) g d l := by
 subst hi hn hc
 refine ⟨(Mod.of_below B).set (.inl (by simp)) _, A', n - 1, c - 1, x, y, z, ?_, (h.row.tail hA).keep fun k hk => ?_, h.ok.rest, fun t ht => h.txt t (by simp [ht])⟩
 ·have := heap_set (i := 0) ((B.block g h.lt).trans h.box) (.slice A' (n - 1) (c - 1))
  exact this
 ·rw [Below.heap_setCell _ _ _ _ (by simp only; omega)]
  exact B.block k (by have := h.lt; omega)
theorem take_any (g d : Nat) (l : List Tok) (s : List UInt8) (w : World) (h : Ps w g d l) : Calls Tryz.prog 76 #[.pointer (some ⟨g, 0, none⟩), sv s] w fun e w' => e = .returned (.bool (isT l s)) ∧ Mod [g] w w' ∧ Ps w' g d (if isT l s then l.tail else l) := by
 have HS := Lib.hid h
 cases hi : isT l s with
 | false =>
  clear h
  go_enter Tryz.func76, Tryz.ntmps76
  go_wp2_with fail
  refine (is_any g d l s _ HS.out).mono ?_; rintro e w1 ⟨rfl, rfl⟩
  rw [hi]
  go_wp2_with fail
  go_ret
  exact ⟨rfl, .refl _ _, HS.out⟩
 | true =>
  obtain ⟨A, n, c, ea, eb, ec, hp⟩ := h
  have hlen := hp.row.len
  have hcap := hp.row.cap
  obtain ⟨⟨x0, x4⟩, x1, x2, x3⟩ := hp.cells
  obtain ⟨xf0, xf4⟩ := hp.free
  have hlt := hp.lt
  have HP := Lib.hid hp
  cases l with
  | nil => cases hi
  | cons t l =>
   obtain ⟨b, off, tp, tq, tr, rfl, hb, ⟨⟨y0, y1⟩, y2, y3, y4⟩, ⟨y5, y6⟩, y7⟩ := hp.row.head
   obtain ⟨tk, tt, tv⟩ := t
   dsimp only at y0 y1 y2 y3 y4
   clear hp
   have hn : 1 ≤ n := by simp at hlen; omega
   have hc1 : 1 ≤ c := by omega
   clear y0 y1 y2 y3 y4 y5 y6 y7
   have hcn := hcap.1
   go_enter Tryz.func76, Tryz.ntmps76
   go_wp2_with fail
   refine (is_any g d _ s _ HS.out).mono ?_; rintro e w1 ⟨rfl, rfl⟩
   rw [hi]
   go_wp2_with fail
   ·go_ret
    obtain ⟨m1, m2⟩ := HP.out.past (Below.refl _ _) 0 rfl (A' := some ⟨b, off, none⟩) (c' := 0) (fun h => absurd (by assumption) h) rfl (by omega)
    exact ⟨rfl, m1, m2⟩
   ·go_ret
    obtain ⟨m1, m2⟩ := HP.out.past (Below.refl _ _) 0 rfl (A' := some ⟨b, off + 8, none⟩) (fun _ => rfl) rfl rfl
    exact ⟨rfl, m1, m2⟩
end Go.Proofs.YtnbmpfdffoidaaaGreat.Y
namespace Go.Proofs.YtnbmpfdffoidaaaGreat
open Go.RowKit
inductive Plan where
 | done
 | read (i : Nat) (rest : Plan)
 | call (i : Nat) (rest : Plan)
 | two (i j : Nat) (l r : Plan)
 | three (i j k : Nat) (l r s : Plan)
def Plan.len : Plan → Nat
 | .done => 0
 | .read _ rest => rest.len + 1
 | .call _ rest => rest.len + 1
 | .two _ _ l _ => l.len + 1
 | .three _ _ _ l _ _ => l.len + 1
section
variable {P : Program} {ops : Array Oper} {Q : Exit → Act → World → Prop} {md : Region.Mode} {bs : List Nat}
def wpPlan (bs : List Nat) (P : Program) (ops : Array Oper) (Q : Exit → Act → World → Prop) : Plan → Act → World → Prop
  | .done, a, w => Q .normal a w
  | .read i rest, a, w => ∃ o, ops[i]? = some o ∧
      ((Region.wanted o (yielded ops a.tmps) = true ∧ ∃ v, (∀ W, KB bs w W → (execOp a.eval o).run P W = .ok (.value v) W) ∧ wpPlan bs P ops Q rest (a.put o.dst v) w) ∨
       (Region.wanted o (yielded ops a.tmps) = false ∧ wpPlan bs P ops Q rest (a.put o.dst undef) w))
  | .call i rest, a, w => ∃ o, ops[i]? = some o ∧
      ((Region.wanted o (yielded ops a.tmps) = true ∧ o.wp P a w (fun a' w' => KB bs w w' ∧ wpPlan bs P ops Q rest a' w') Q) ∨
       (Region.wanted o (yielded ops a.tmps) = false ∧ wpPlan bs P ops Q rest (a.put o.dst undef) w))
  | .two i j l r, a, w => (∃ o, ops[i]? = some o ∧ Region.wanted o (yielded ops a.tmps) = true ∧ o.wp P a w (fun a' w' => KB bs w w' ∧ wpPlan bs P ops Q l a' w') Q) ∧
      (∃ o, ops[j]? = some o ∧ Region.wanted o (yielded ops a.tmps) = true ∧ o.wp P a w (fun a' w' => KB bs w w' ∧ wpPlan bs P ops Q r a' w') Q)
  | .three i j k l r s, a, w => (∃ o, ops[i]? = some o ∧ Region.wanted o (yielded ops a.tmps) = true ∧ o.wp P a w (fun a' w' => KB bs w w' ∧ wpPlan bs P ops Q l a' w') Q) ∧
      (∃ o, ops[j]? = some o ∧ Region.wanted o (yielded ops a.tmps) = true ∧ o.wp P a w (fun a' w' => KB bs w w' ∧ wpPlan bs P ops Q r a' w') Q) ∧
      (∃ o, ops[k]? = some o ∧ Region.wanted o (yielded ops a.tmps) = true ∧ o.wp P a w (fun a' w' => KB bs w w' ∧ wpPlan bs P ops Q s a' w') Q)
def planOk (md : Region.Mode) (ops : Array Oper) : Array Bool → Plan → Bool
 | listed, .done => (Region.ready md ops listed).isEmpty
 | listed, .read i rest => Region.free md ops listed i && (Region.ready md ops listed).contains i && planOk md ops (listed.setIfInBounds i true) rest
 | listed, .call i rest => (Region.ready md ops listed == [i]) && planOk md ops (listed.setIfInBounds i true) rest
 | listed, .two i j l r => (Region.ready md ops listed == [i, j]) && (l.len == r.len && (planOk md ops (listed.setIfInBounds i true) l && planOk md ops (listed.setIfInBounds j true) r))
 | listed, .three i j k l r s => (Region.ready md ops listed == [i, j, k]) && ((l.len == r.len && l.len == s.len) && (planOk md ops (listed.setIfInBounds i true) l && (planOk md ops (listed.setIfInBounds j true) r && planOk md ops (listed.setIfInBounds k true) s)))
theorem wpAnyH_plan (hs : Region.noSelect ops = true) (hQ : ∀ c a d v w, Q (.panic c) (a.put d v) w → Q (.panic c) a w) :
  ∀ (steps : Plan) (listed : Array Bool) (a : Act) (w : World), planOk md ops listed steps = true → wpPlan bs P ops Q steps a w → wpAnyH P md ops Q (KB bs w) steps.len listed a w
 | .done, listed, a, w, hok, h => ⟨by simpa [planOk] using hok, h⟩
 | .read i rest, listed, a, w, hok, h => by
  simp only [planOk, Bool.and_eq_true] at hok
  obtain ⟨⟨hf, hr⟩, hok⟩ := hok
  obtain ⟨o, hi, h⟩ := h
  rcases h with ⟨hw, v, hv, h⟩ | ⟨hw, h⟩
  ·exact wpAnyH_take (v := v) hi hs hf hr (fun c a w => hQ c a o.dst v w) (.inl ⟨hw, hv⟩) (KB.refl bs w) (wpAnyH_plan hs hQ rest _ _ w hok h)
  ·exact wpAnyH_take (v := undef) hi hs hf hr (fun c a w => hQ c a o.dst undef w) (.inr ⟨hw, rfl⟩) (KB.refl bs w) (wpAnyH_plan hs hQ rest _ _ w hok h)
 | .call i rest, listed, a, w, hok, h => by
  simp only [planOk, Bool.and_eq_true, beq_iff_eq] at hok
  obtain ⟨hr, hok⟩ := hok
  obtain ⟨o, hi, h⟩ := h
  refine wpAnyH_all hr (by simp) fun j hj => ?_
  obtain rfl : j = i := by simpa using hj
  unfold wpOp
  simp only [hi]
  rcases h with ⟨hw, h⟩ | ⟨hw, h⟩
  ·simp only [hw, if_true]
   refine .inl (Oper.wp_mono (fun a' w' h' => ⟨h'.1, ?_⟩) h)
   exact wpAnyH_impB (fun W hW => KB.trans h'.1 hW) _ _ _ _ (wpAnyH_plan hs hQ rest _ a' w' hok h'.2)
  ·simp only [hw, Bool.false_eq_true, if_false]
   exact ⟨KB.refl bs w, wpAnyH_plan hs hQ rest _ _ w hok h⟩
 | .two i j l r, listed, a, w, hok, h => by
  simp only [planOk, Bool.and_eq_true, beq_iff_eq] at hok
  obtain ⟨hr, hlen, hl, hrr⟩ := hok
  obtain ⟨⟨o, hi, hw, h⟩, ⟨o', hj, hw', h'⟩⟩ := h
  refine wpAnyH_all hr (by simp) fun k hk => ?_
  have hk2 : k = i ∨ k = j := by simpa using hk
  rcases hk2 with rfl | rfl
  ·unfold wpOp
   simp only [hi, hw, if_true]
   refine .inl (Oper.wp_mono (fun a' w' h' => ⟨h'.1, ?_⟩) h)
   exact wpAnyH_impB (fun W hW => KB.trans h'.1 hW) _ _ _ _ (wpAnyH_plan hs hQ l _ a' w' hl h'.2)
  ·unfold wpOp
   simp only [hj, hw', if_true]
   refine .inl (Oper.wp_mono (fun a' w' h' => ⟨h'.1, ?_⟩) h')
   have := wpAnyH_impB (fun W hW => KB.trans h'.1 hW) _ _ _ _ (wpAnyH_plan hs hQ r _ a' w' hrr h'.2)
   rwa [← hlen] at this
 | .three i j m l r s, listed, a, w, hok, h => by
  simp only [planOk, Bool.and_eq_true, beq_iff_eq] at hok
  obtain ⟨hr, ⟨hlen, hlen2⟩, hl, hrr, hss⟩ := hok
  obtain ⟨⟨o, hi, hw, h⟩, ⟨o', hj, hw', h'⟩, ⟨o2, hm, hw2, h2⟩⟩ := h
  refine wpAnyH_all hr (by simp) fun k hk => ?_
  have hk2 : k = i ∨ k = j ∨ k = m := by simpa using hk
  rcases hk2 with rfl | rfl | rfl
  ·unfold wpOp
   simp only [hi, hw, if_true]
   refine .inl (Oper.wp_mono (fun a' w' h' => ⟨h'.1, ?_⟩) h)
   exact wpAnyH_impB (fun W hW => KB.trans h'.1 hW) _ _ _ _ (wpAnyH_plan hs hQ l _ a' w' hl h'.2)
  ·unfold wpOp
   simp only [hj, hw', if_true]
   refine .inl (Oper.wp_mono (fun a' w' h' => ⟨h'.1, ?_⟩) h')
   have := wpAnyH_impB (fun W hW => KB.trans h'.1 hW) _ _ _ _ (wpAnyH_plan hs hQ r _ a' w' hrr h'.2)
   rwa [← hlen] at this
  ·unfold wpOp
   simp only [hm, hw2, if_true]
   refine .inl (Oper.wp_mono (fun a' w' h' => ⟨h'.1, ?_⟩) h2)
   have := wpAnyH_impB (fun W hW => KB.trans h'.1 hW) _ _ _ _ (wpAnyH_plan hs hQ s _ a' w' hss h'.2)
   rwa [← hlen2] at this
theorem wp_region_plan (bs : List Nat) {id : Nat} {a : Act} {w : World} (steps : Plan) (hm : P.follows .mixedOrders = true)
  (hok : (Region.noSelect ops && steps.len == ops.size && planOk .any ops (Array.replicate ops.size false) steps) = true)
  (hQ : ∀ c a d v w, Q (.panic c) (a.put d v) w → Q (.panic c) a w) (h : wpPlan bs P ops Q steps a w.drew) : (Code.region id ops true).wp P Q a w := by
 simp only [Bool.and_eq_true, beq_iff_eq] at hok
 obtain ⟨⟨hs, hl⟩, hok⟩ := hok
 refine wp_region_held (S := KB bs w.drew) hm ?_
 rw [← hl]
 exact wpAnyH_plan hs hQ steps _ a w.drew (by rw [hl]; exact hok) h
theorem pskip {l : List Oper} {i : Nat} {rest : Plan} {a : Act} {w : World} {o : Oper} (hi : l[i]? = some o) (hw : Region.wanted o (yielded l.toArray a.tmps) = false)
  (h : wpPlan bs P l.toArray Q rest (a.put o.dst undef) w) : wpPlan bs P l.toArray Q (.read i rest) a w := ⟨o, by simpa using hi, .inr ⟨hw, h⟩⟩
theorem pdone {a : Act} {w : World} (h : Q .normal a w) : wpPlan bs P ops Q .done a w := h
theorem pcall {l : List Oper} {i : Nat} {rest : Plan} {a : Act} {w : World} {o : Oper} (hi : l[i]? = some o) (hw : Region.wanted o (yielded l.toArray a.tmps) = true)
  (h : ∀ K : Act → World → Prop, Shut (∀ a' w', KB bs w w' → wpPlan bs P l.toArray Q rest a' w' → K a' w') → o.wp P a w K Q) : wpPlan bs P l.toArray Q (.call i rest) a w :=
 ⟨o, by simpa using hi, .inl ⟨hw, h _ (fun _ _ hg hk => ⟨hg, hk⟩)⟩⟩
theorem ptwo {l : List Oper} {i j : Nat} {r1 r2 : Plan} {a : Act} {w : World} {o o' : Oper} (hi : l[i]? = some o) (hw : Region.wanted o (yielded l.toArray a.tmps) = true) (hj : l[j]? = some o') (hw' : Region.wanted o' (yielded l.toArray a.tmps) = true)
  (h : ∀ K : Act → World → Prop, Shut (∀ a' w', KB bs w w' → wpPlan bs P l.toArray Q r1 a' w' → K a' w') → o.wp P a w K Q)
  (h' : ∀ K : Act → World → Prop, Shut (∀ a' w', KB bs w w' → wpPlan bs P l.toArray Q r2 a' w' → K a' w') → o'.wp P a w K Q) : wpPlan bs P l.toArray Q (.two i j r1 r2) a w :=
 ⟨⟨o, by simpa using hi, hw, h _ (fun _ _ hg hk => ⟨hg, hk⟩)⟩, ⟨o', by simpa using hj, hw', h' _ (fun _ _ hg hk => ⟨hg, hk⟩)⟩⟩
theorem pthree {l : List Oper} {i j k : Nat} {r1 r2 r3 : Plan} {a : Act} {w : World} {o o' o2 : Oper} (hi : l[i]? = some o) (hw : Region.wanted o (yielded l.toArray a.tmps) = true) (hj : l[j]? = some o') (hw' : Region.wanted o' (yielded l.toArray a.tmps) = true) (hk : l[k]? = some o2) (hw2 : Region.wanted o2 (yielded l.toArray a.tmps) = true)
  (h : ∀ K : Act → World → Prop, Shut (∀ a' w', KB bs w w' → wpPlan bs P l.toArray Q r1 a' w' → K a' w') → o.wp P a w K Q)
  (h' : ∀ K : Act → World → Prop, Shut (∀ a' w', KB bs w w' → wpPlan bs P l.toArray Q r2 a' w' → K a' w') → o'.wp P a w K Q)
  (h2 : ∀ K : Act → World → Prop, Shut (∀ a' w', KB bs w w' → wpPlan bs P l.toArray Q r3 a' w' → K a' w') → o2.wp P a w K Q) : wpPlan bs P l.toArray Q (.three i j k r1 r2 r3) a w :=
 ⟨⟨o, by simpa using hi, hw, h _ (fun _ _ hg hk => ⟨hg, hk⟩)⟩, ⟨o', by simpa using hj, hw', h' _ (fun _ _ hg hk => ⟨hg, hk⟩)⟩, ⟨o2, by simpa using hk, hw2, h2 _ (fun _ _ hg hk => ⟨hg, hk⟩)⟩⟩
theorem sreadxP {l : List Oper} {i : Nat} {rest : Plan} {a : Act} {w : World} {o : Oper} (hi : l[i]? = some o) (hw : Region.wanted o (yielded l.toArray a.tmps) = true)
  (h : ∃ v, (∀ W, KB bs w W → (execOp a.eval o).run P W = .ok (.value v) W) ∧ wpPlan bs P l.toArray Q rest (a.put o.dst v) w) : wpPlan bs P l.toArray Q (.read i rest) a w := ⟨o, by simpa using hi, .inl ⟨hw, h⟩⟩
theorem pwith {steps : Plan} {a : Act} {w : World} {p : World → Prop} (h1 : ∀ W, KB bs w W → p W) (h2 : (∀ W, KB bs w W → p W) → wpPlan bs P ops Q steps a w) : wpPlan bs P ops Q steps a w := h2 h1
end
end Go.Proofs.YtnbmpfdffoidaaaGreat
