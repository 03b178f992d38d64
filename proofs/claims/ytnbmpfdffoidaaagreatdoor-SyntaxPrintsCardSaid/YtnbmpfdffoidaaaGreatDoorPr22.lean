/- Texts of the proof, joined: SynEq, EqS, EqT. -/
import Derived.Test.YtnbmpfdffoidaaaGreatDoorPr14
import Derived.Test.YtnbmpfdffoidaaaGreatDoorPr20
import Derived.Test.YtnbmpfdffoidaaaGreatDoorPr21
set_option linter.unusedVariables false
set_option linter.unusedSimpArgs false
set_option maxHeartbeats 8000000
set_option maxRecDepth 100000
namespace Go.Proofs.YtnbmpfdffoidaaaGreatDoor.Y
open Go.RowKit O V S X
def PSame (x:Ex):Prop:= ∀(y:Ex) (A B:Option Addr) (c c':Nat) (p q r p' q' r':Int) (S S':Nat→Prop) (w:World),ExAt w S x A c→ExAt w S' y B c'→(∀b,S b→b < w.heap.size)→(∀b,S' b→b < w.heap.size)→
 Calls Tryz.prog 128 #[exX x A c p q r,exX y B c' p' q' r'] w fun e w'=> RetQ (x=y) e∧Below w.heap.size w w'
def EqR (l:List Ex):Prop:= ∀(m:List Ex) (A B:Option Addr) (c c':Nat) (S S':Nat→Prop) (w:World),RX w S A c l→RX w S' B c' m→(∀b,S b→b < w.heap.size)→(∀b,S' b→b < w.heap.size)→l.length≤1000000→m.length≤1000000→
 Calls Tryz.prog 127 #[.slice A l.length c,.slice B m.length c',.func (.func 128) #[] #[]] w fun e w'=> RetQ (l=m) e∧Below w.heap.size w w'
theorem veql_no {x y:Val}(h:x≠y)(w:World):(binOp .eql 57 (.agg #[.int .i64 x.k,.int .i64 x.n,.string ⟨x.s.toArray⟩]) (.agg #[.int .i64 y.k,.int .i64 y.n,.string ⟨y.s.toArray⟩])).run Tryz.prog w= .ok (.bool false) w:=by
 go_simp
 exact fun h1 h2 h3=> h (V.Val.same h1 h2 h3)
theorem veql_yes (x:Val)(w:World):(binOp .eql 57 (.agg #[.int .i64 x.k,.int .i64 x.n,.string ⟨x.s.toArray⟩]) (.agg #[.int .i64 x.k,.int .i64 x.n,.string ⟨x.s.toArray⟩])).run Tryz.prog w= .ok (.bool true) w:=by
 go_simp
theorem seql_no {x y:List UInt8}(h:x≠y)(w:World):(binOp .eql 9 (.string ⟨x.toArray⟩) (.string ⟨y.toArray⟩)).run Tryz.prog w= .ok (.bool false) w:=by
 go_simp
theorem seql_yes (x:List UInt8)(w:World):(binOp .eql 9 (.string ⟨x.toArray⟩) (.string ⟨x.toArray⟩)).run Tryz.prog w= .ok (.bool true) w:=by
 go_simp
theorem psame_step (x:Ex)(ih:EqR (parts x)):PSame x:=by
 intro y A B c c' p q r p' q' r' S S' w h1 h2 hS hS'
 have hih:=Lib.hid ih
 have G1:=Lib.hid h1
 have G2:=Lib.hid h2
 have HS:=Lib.hid hS
 have HS':=Lib.hid hS'
 have hL1:=parts_len x
 have hL2:=parts_len y
 have hx:=ex_ext (x:=x) (y:=y)
 have HNO:Hid (¬(((hdK x=hdK y∧hdV x=hdV y)∧(hdN x=hdN y∧hdC x=hdC y)∧hdO x=hdO y)∧parts x=parts y)→x≠y):=Lib.hid fun h e=> h (hx.1 e)
 have HYES:Hid (((hdK x=hdK y∧hdV x=hdV y)∧(hdN x=hdN y∧hdC x=hdC y)∧hdO x=hdO y)∧parts x=parts y→x=y):=Lib.hid fun h=> hx.2 h
 clear ih h1 h2 hS hS' hx
 have g1:=G1.out.ex
 have g2:=G2.out.ex
 have K1:Hid (RX w S A c (parts x)):=Lib.hid g1
 have K2:Hid (RX w S' B c' (parts y)):=Lib.hid g2
 clear g1 g2 G1 G2
 show Calls _ _ #[exVal _ _ _ _ _ _ _ _ _ _ _,exVal _ _ _ _ _ _ _ _ _ _ _] _ _
 generalize hdK x=xk at *
 generalize hdV x=xv at *
 generalize hdN x=xn at *
 generalize hdC x=xc at *
 generalize hdO x=xo at *
 generalize hdK y=yk at *
 generalize hdV y=yv at *
 generalize hdN y=yn at *
 generalize hdC y=yc at *
 generalize hdO y=yo at *
 generalize parts x=xl at *
 generalize parts y=yl at *
 by_cases e0:xk=yk
 ·subst e0
  by_cases e1:xv=yv
  ·subst e1
   have s1:=fun w=> veql_yes xv w
   by_cases e2:xn=yn
   ·subst e2
    have s2:=fun w=> seql_yes xn w
    by_cases e3:xc=yc
    ·subst e3
     have s3:=fun w=> seql_yes xc w
     by_cases e4:xo=yo
     ·subst e4
      go_enter Tryz.func128,Tryz.ntmps128
      go_wp2_with fail
      refine (hih.out yl A B c c' S S' _ (K1.out.keep fun b hB=> ?_) (K2.out.keep fun b hB=> ?_) (fun b hB=> ?_) (fun b hB=> ?_) (by omega) (by omega)).mono ?_
      ·exact ((Below.refl w.heap.size w).alloc (Nat.le_refl _) _ |>.alloc (by simp) _).block b (HS.out b hB)
      ·exact ((Below.refl w.heap.size w).alloc (Nat.le_refl _) _ |>.alloc (by simp) _).block b (HS'.out b hB)
      ·have:=HS.out b hB;simp;omega
      ·have:=HS'.out b hB;simp;omega
      rintro e w5 ⟨⟨bb,rfl,hbb⟩,b5⟩
      have HBB:=Lib.hid hbb
      clear hbb
      have B5:Below w.heap.size w w5:=bthen (by repeat (first | exact Below.refl _ _ | refine Below.alloc ?_ (by first | omega | (simp <;> omega)) _)) b5
      go_wp2_with fail
      go_ret
      refine ⟨⟨bb,rfl,?_⟩,B5⟩
      constructor
      ·intro h
       exact HYES.out (by simpa using HBB.out.1 h)
      ·intro h
       refine HBB.out.2 ?_
       apply Classical.byContradiction
       intro hc
       exact HNO.out (by simpa using hc) h
     ·have d4:((xo:Int)==(yo:Int))=false:=by simp;omega
      go_enter Tryz.func128,Tryz.ntmps128
      go_wp2_with fail
      go_ret
      refine ⟨⟨false,rfl,?_⟩,?_⟩
      ·have:=HNO.out (fun h=> e4 h.1.2.2)
       simp [this]
      ·repeat (first | (with_reducible exact Below.refl _ _) | (with_reducible assumption) | refine Below.setCell ?_ (by simp <;> omega) _ | refine Below.alloc ?_ (by simp <;> omega) _ | refine Below.drew ?_)
    ·have s3:=fun w=> seql_no e3 w
     go_enter Tryz.func128,Tryz.ntmps128
     go_wp2_with fail
     go_ret
     refine ⟨⟨false,rfl,?_⟩,?_⟩
     ·have:=HNO.out (fun h=> e3 h.1.2.1.2)
      simp [this]
     ·repeat (first | (with_reducible exact Below.refl _ _) | (with_reducible assumption) | refine Below.setCell ?_ (by simp <;> omega) _ | refine Below.alloc ?_ (by simp <;> omega) _ | refine Below.drew ?_)
   ·have s2:=fun w=> seql_no e2 w
    go_enter Tryz.func128,Tryz.ntmps128
    go_wp2_with fail
    go_ret
    refine ⟨⟨false,rfl,?_⟩,?_⟩
    ·have:=HNO.out (fun h=> e2 h.1.2.1.1)
     simp [this]
    ·repeat (first | (with_reducible exact Below.refl _ _) | (with_reducible assumption) | refine Below.setCell ?_ (by simp <;> omega) _ | refine Below.alloc ?_ (by simp <;> omega) _ | refine Below.drew ?_)
  ·have s1:=fun w=> veql_no e1 w
   go_enter Tryz.func128,Tryz.ntmps128
   go_wp2_with fail
   go_ret
   refine ⟨⟨false,rfl,?_⟩,?_⟩
   ·have:=HNO.out (fun h=> e1 h.1.1.2)
    simp [this]
   ·repeat (first | (with_reducible exact Below.refl _ _) | (with_reducible assumption) | refine Below.setCell ?_ (by simp <;> omega) _ | refine Below.alloc ?_ (by simp <;> omega) _ | refine Below.drew ?_)
 ·have d0:(xk==yk)=false:=by simpa using e0
  go_enter Tryz.func128,Tryz.ntmps128
  go_wp2_with fail
  go_ret
  refine ⟨⟨false,rfl,?_⟩,?_⟩
  ·have:=HNO.out (fun h=> e0 h.1.1.1)
   simp [this]
  ·repeat (first | (with_reducible exact Below.refl _ _) | (with_reducible assumption) | refine Below.setCell ?_ (by simp <;> omega) _ | refine Below.alloc ?_ (by simp <;> omega) _ | refine Below.drew ?_)
theorem eqr_step (l:List Ex)(ih: ∀x ∈ l,PSame x):EqR l:=by
 intro m A B c c' S S' w h1 h2 hS hS' hl hm
 have HIH:=Lib.hid ih
 clear ih
 have hc1:=Tryz.call128
 by_cases hne:l.length=m.length
 ·obtain ⟨n,hn⟩: ∃n,l.length=n:=⟨_,rfl⟩
  have hn2:m.length=n:=by omega
  have HN:=Lib.hid hn
  have HN2:=Lib.hid hn2
  rw [hn,hn2]
  rw [hn]at hl
  clear hn hn2 hm hne
  have H1:=Lib.hid h1
  have H2:=Lib.hid h2
  have HS:=Lib.hid hS
  have HS':=Lib.hid hS'
  clear h1 h2 hS hS'
  go_enter Tryz.func127,Tryz.ntmps127
  go_wp2_with fail
  go_loopw [6,17] (fun _ i wr=> ∃k:Nat,k≤n∧i= .int .i64 k∧Hid (l.take k=m.take k)∧Below w.heap.size w wr) (fun _ i _=> n - (intOf i).toNat)
  case atStart=> exact ⟨0,by omega,rfl,Lib.hid (by simp),Below.refl _ _⟩
  case round=>
   obtain ⟨k,hk,rfl,H,hb⟩:=hrel
   by_cases hlt:k < n
   ·have hlt':k < l.length:=by rw [HN.out];exact hlt
    have hlt2:k < m.length:=by rw [HN2.out];exact hlt
    have hki:(k:Int) < (n:Int):=by omega
    obtain ⟨b1,off1,A1,c1,p1,q1,r1,rfl,hb1,hc1',g1⟩:=(H1.out.keep (w':=wr) fun b hB=> hb.block b (HS.out b hB)).at_ HS.out hlt'
    obtain ⟨b2,off2,A2,c2,p2,q2,r2,rfl,hb2,hc2,g2⟩:=(H2.out.keep (w':=wr) fun b hB=> hb.block b (HS'.out b hB)).at_ HS'.out hlt2
    have hst:=Lib.hid (take_same hlt' hlt2 H.out)
    have hno:=Lib.hid (ne_at hlt' hlt2)
    have hih:=Lib.hid (HIH.out _ (List.getElem_mem hlt'))
    have G1:Hid (ExAt wr S l[k] A1 c1):=Lib.hid ⟨g1⟩
    have G2:Hid (ExAt wr S' m[k] A2 c2):=Lib.hid ⟨g2⟩
    clear g1 g2
    have hz:=hb.size
    have hbw1:b1 < wr.heap.size:=by omega
    have hbw2:b2 < wr.heap.size:=by omega
    generalize l[k]=x at *
    generalize m[k]=y at *
    have xy0:wr.cell? ⟨b1,off1+k * 11,none⟩=some (nv (hdK x)):=hc1' 0 (by omega)
    have xy1:wr.cell? ⟨b1,off1+k * 11+1,none⟩=some (nv (hdV x).k):=hc1' 1 (by omega)
    have xy2:wr.cell? ⟨b1,off1+k * 11+2,none⟩=some (nv (hdV x).n):=hc1' 2 (by omega)
    have xy3:wr.cell? ⟨b1,off1+k * 11+3,none⟩=some (sv (hdV x).s):=hc1' 3 (by omega)
    have xy4:wr.cell? ⟨b1,off1+k * 11+4,none⟩=some (sv (hdN x)):=hc1' 4 (by omega)
    have xy5:wr.cell? ⟨b1,off1+k * 11+5,none⟩=some (sv (hdC x)):=hc1' 5 (by omega)
    have xy6:wr.cell? ⟨b1,off1+k * 11+6,none⟩=some (nv (hdO x:Nat)):=hc1' 6 (by omega)
    have xy7:wr.cell? ⟨b1,off1+k * 11+7,none⟩=some (.slice A1 (parts x).length c1):=hc1' 7 (by omega)
    have xy8:wr.cell? ⟨b1,off1+k * 11+8,none⟩=some (nv p1):=hc1' 8 (by omega)
    have xy9:wr.cell? ⟨b1,off1+k * 11+9,none⟩=some (nv q1):=hc1' 9 (by omega)
    have xy10:wr.cell? ⟨b1,off1+k * 11+10,none⟩=some (nv r1):=hc1' 10 (by omega)
    have yy0:wr.cell? ⟨b2,off2+k * 11,none⟩=some (nv (hdK y)):=hc2 0 (by omega)
    have yy1:wr.cell? ⟨b2,off2+k * 11+1,none⟩=some (nv (hdV y).k):=hc2 1 (by omega)
    have yy2:wr.cell? ⟨b2,off2+k * 11+2,none⟩=some (nv (hdV y).n):=hc2 2 (by omega)
    have yy3:wr.cell? ⟨b2,off2+k * 11+3,none⟩=some (sv (hdV y).s):=hc2 3 (by omega)
    have yy4:wr.cell? ⟨b2,off2+k * 11+4,none⟩=some (sv (hdN y)):=hc2 4 (by omega)
    have yy5:wr.cell? ⟨b2,off2+k * 11+5,none⟩=some (sv (hdC y)):=hc2 5 (by omega)
    have yy6:wr.cell? ⟨b2,off2+k * 11+6,none⟩=some (nv (hdO y:Nat)):=hc2 6 (by omega)
    have yy7:wr.cell? ⟨b2,off2+k * 11+7,none⟩=some (.slice A2 (parts y).length c2):=hc2 7 (by omega)
    have yy8:wr.cell? ⟨b2,off2+k * 11+8,none⟩=some (nv p2):=hc2 8 (by omega)
    have yy9:wr.cell? ⟨b2,off2+k * 11+9,none⟩=some (nv q2):=hc2 9 (by omega)
    have yy10:wr.cell? ⟨b2,off2+k * 11+10,none⟩=some (nv r2):=hc2 10 (by omega)
    clear hc1' hc2 H
    go_wp2_with fail
    refine (hih.out y A1 A2 c1 c2 p1 q1 r1 p2 q2 r2 S S' _ (G1.out.keep fun b hB=> ?_) (G2.out.keep fun b hB=> ?_) (fun b hB=> ?_) (fun b hB=> ?_)).mono ?_
    ·exact ((Below.refl wr.heap.size wr).alloc (Nat.le_refl _) _ |>.alloc (by simp) _).block b (by have:=HS.out b hB;omega)
    ·exact ((Below.refl wr.heap.size wr).alloc (Nat.le_refl _) _ |>.alloc (by simp) _).block b (by have:=HS'.out b hB;omega)
    ·have:=HS.out b hB;simp;omega
    ·have:=HS'.out b hB;simp;omega
    rintro e w5 ⟨⟨bb,rfl,hbb⟩,b5⟩
    have HBB:=Lib.hid hbb
    clear hbb
    have B5:Below w.heap.size w w5:=bthen (by repeat (first | (with_reducible exact hb) | refine Below.alloc ?_ (by first | omega | (simp <;> omega)) _)) b5
    cases bb with
    | false=>
     go_wp2_with fail
     go_ret
     refine ⟨⟨false,rfl,?_⟩,B5⟩
     have:=hno.out (fun e=> by have:=HBB.out.2 e;cases this)
     simp [this]
    | true=>
     go_wp2_with fail
     go_roundw
     case rel=> exact ⟨k+1,by omega,by go_num,Lib.hid (hst.out (HBB.out.1 (by trivial))),B5⟩
     case measure=> simp [intOf];omega
   ·obtain rfl:k=n:=by omega
    have hall:l=m:=by
     have:=H.out
     rwa [List.take_of_length_le (by rw [HN.out];exact Nat.le_refl _),List.take_of_length_le (by rw [HN2.out];exact Nat.le_refl _)]at this
    go_wp2_with fail
    go_ret
    exact ⟨⟨true,rfl,by simp [hall]⟩,hb⟩
 ·have hr:Hid (l≠m):=Lib.hid (fun e=> hne (by rw [e]))
  have d1:((l.length:Int) !=(m.length:Int))=true:=by simp;omega
  clear h1 h2
  go_enter Tryz.func127,Tryz.ntmps127
  go_wp2_with fail
  go_ret
  exact ⟨⟨false,rfl,by simp [hr.out]⟩,Below.refl _ _⟩
theorem psame_any: ∀x:Ex,PSame x:=Ex.ind fun x ih=> psame_step x (eqr_step _ ih)
theorem eqr_any (l:List Ex):EqR l:=eqr_step l fun x _=> psame_any x
end Go.Proofs.YtnbmpfdffoidaaaGreatDoor.Y
namespace Go.Proofs.YtnbmpfdffoidaaaGreatDoor.Y
open Go.RowKit O V S X
theorem at11 {W:World}{b o:Nat}{x0 x1 x2 x3 x4 x5 x6 x7 x8 x9 x10:Value}(h: ∀j,j < 11→W.cell? ⟨b,o+j,none⟩=[x0,x1,x2,x3,x4,x5,x6,x7,x8,x9,x10][j]?):
  (((W.cell? ⟨b,o,none⟩=some x0∧W.cell? ⟨b,o+1,none⟩=some x1)∧W.cell? ⟨b,o+2,none⟩=some x2∧W.cell? ⟨b,o+3,none⟩=some x3)∧(W.cell? ⟨b,o+4,none⟩=some x4∧W.cell? ⟨b,o+5,none⟩=some x5)∧W.cell? ⟨b,o+6,none⟩=some x6∧W.cell? ⟨b,o+7,none⟩=some x7)∧(W.cell? ⟨b,o+8,none⟩=some x8∧W.cell? ⟨b,o+9,none⟩=some x9)∧W.cell? ⟨b,o+10,none⟩=some x10:=
 ⟨⟨⟨⟨h 0 (by omega),h 1 (by omega)⟩,h 2 (by omega),h 3 (by omega)⟩,⟨h 4 (by omega),h 5 (by omega)⟩,h 6 (by omega),h 7 (by omega)⟩,⟨h 8 (by omega),h 9 (by omega)⟩,h 10 (by omega)⟩
theorem two_new {w:World}{o o':Obj}:Below w.heap.size w ((w.alloc o).alloc o'):=((Below.refl _ _).alloc (Nat.le_refl _) _).alloc (by simp) _
abbrev smVal (x:St)(A:Option Addr)(c:Nat)(B:Option Addr)(d:Nat)(E:Option Addr)(f:Nat)(p q r:Int):Value:= .agg (smL (stK x) (stN x) (stT x) (stC x) (stI x) (.slice A (stA x).length c) (.slice B (stB x).len d) (.slice E (stE x).len f) p q r).toArray
def StP (w:World)(S:Nat→Prop)(x:St)(A:Option Addr)(c:Nat)(B:Option Addr)(d:Nat)(E:Option Addr)(f:Nat):Prop:=RX w S A c (stA x)∧RS w S B d (stB x)∧RS w S E f (stE x)
theorem StP.keep {w w':World}{S:Nat→Prop}{x:St}{A:Option Addr}{c:Nat}{B:Option Addr}{d:Nat}{E:Option Addr}{f:Nat}(h:StP w S x A c B d E f)(hk: ∀b,S b→w'.heap[b]? =w.heap[b]?):StP w' S x A c B d E f:=⟨h.1.keep hk,h.2.1.keep hk,h.2.2.keep hk⟩
def PSameS (x:St):Prop:= ∀(y:St) (A A':Option Addr) (c c':Nat) (B B':Option Addr) (d d':Nat) (E E':Option Addr) (f f':Nat) (p q r p' q' r':Int) (S S':Nat→Prop) (w:World),StP w S x A c B d E f→StP w S' y A' c' B' d' E' f'→(∀b,S b→b < w.heap.size)→(∀b,S' b→b < w.heap.size)→
 Calls Tryz.prog 77 #[smVal x A c B d E f p q r,smVal y A' c' B' d' E' f' p' q' r'] w fun e w'=> RetQ (x=y) e∧Below w.heap.size w w'
def EqB (l:Sts):Prop:= ∀(m:Sts) (A B:Option Addr) (c c':Nat) (S S':Nat→Prop) (w:World),RS w S A c l→RS w S' B c' m→(∀b,S b→b < w.heap.size)→(∀b,S' b→b < w.heap.size)→
 Calls Tryz.prog 76 #[.slice A l.len c,.slice B m.len c',.func (.func 77) #[] #[]] w fun e w'=> RetQ (l=m) e∧Below w.heap.size w w'
theorem psameS_step (x:St)(ihB:EqB (stB x))(ihE:EqB (stE x)):PSameS x:=by
 intro y A A' c c' B B' d d' E E' f f' p q r p' q' r' S S' w h1 h2 hS hS'
 have HB:=Lib.hid ihB
 have HE:=Lib.hid ihE
 have HS:=Lib.hid hS
 have HS':=Lib.hid hS'
 have hL1:=stA_len x
 have hL2:=stA_len y
 have hx:=st_ext (x:=x) (y:=y)
 have HNO:Hid (¬(((stK x=stK y∧stN x=stN y)∧(stT x=stT y∧stC x=stC y)∧stI x=stI y)∧stA x=stA y∧stB x=stB y∧stE x=stE y)→x≠y):=Lib.hid fun h e=> h (hx.1 e)
 have HYES:Hid (((stK x=stK y∧stN x=stN y)∧(stT x=stT y∧stC x=stC y)∧stI x=stI y)∧stA x=stA y∧stB x=stB y∧stE x=stE y→x=y):=Lib.hid fun h=> hx.2 h
 have K1:=Lib.hid h1
 have K2:=Lib.hid h2
 unfold StP at K1 K2
 clear ihB ihE h1 h2 hS hS' hx
 show Calls _ _ #[.agg #[_,_,_,_,_,_,_,_,_,_,_],.agg #[_,_,_,_,_,_,_,_,_,_,_]] _ _
 generalize stK x=xk at *
 generalize stN x=xn at *
 generalize stT x=xt at *
 generalize stC x=xc at *
 generalize stI x=xi at *
 generalize stK y=yk at *
 generalize stN y=yn at *
 generalize stT y=yt at *
 generalize stC y=yc at *
 generalize stI y=yi at *
 generalize stA x=xa at *
 generalize stB x=xb at *
 generalize stE x=xe at *
 generalize stA y=ya at *
 generalize stB y=yb at *
 generalize stE y=ye at *
 by_cases e0:xk=yk
 ·subst e0
  by_cases e1:xn=yn
  ·subst e1
   have s1:=fun w=> seql_yes xn w
   by_cases e2:xt=yt
   ·subst e2
    have s2:=fun w=> seql_yes xt w
    by_cases e3:xc=yc
    ·subst e3
     have s3:=fun w=> seql_yes xc w
     by_cases e4:xi=yi
     ·subst e4
      go_enter Tryz.func77,Tryz.ntmps77
      go_wp2_with fail
      have B4:=two_new (w:=w) (o:=smA xk xn xt xc xi (.slice A xa.length c) (.slice B xb.len d) (.slice E xe.len f) p q r) (o':=smA xk xn xt xc xi (.slice A' ya.length c') (.slice B' yb.len d') (.slice E' ye.len f') p' q' r')
      have X1:Hid (((w.alloc (smA xk xn xt xc xi (.slice A xa.length c) (.slice B xb.len d) (.slice E xe.len f) p q r)).alloc (smA xk xn xt xc xi (.slice A' ya.length c') (.slice B' yb.len d') (.slice E' ye.len f') p' q' r')).heap[w.heap.size]? =some (smX xk xn xt xc xi (.slice A xa.length c) (.slice B xb.len d) (.slice E xe.len f) p q r)):=Lib.hid (alloc_old' (alloc_at rfl))
      have X2:Hid (((w.alloc (smA xk xn xt xc xi (.slice A xa.length c) (.slice B xb.len d) (.slice E xe.len f) p q r)).alloc (smA xk xn xt xc xi (.slice A' ya.length c') (.slice B' yb.len d') (.slice E' ye.len f') p' q' r')).heap[w.heap.size+1]? =some (smX xk xn xt xc xi (.slice A' ya.length c') (.slice B' yb.len d') (.slice E' ye.len f') p' q' r')):=Lib.hid (alloc_at (by simp))
      refine (eqr_any xa ya A A' c c' S S' _ (K1.out.1.keep fun b hB=> B4.block b (HS.out b hB)) (K2.out.1.keep fun b hB=> B4.block b (HS'.out b hB)) (fun b hB=> Nat.lt_of_lt_of_le (HS.out b hB) B4.size) (fun b hB=> Nat.lt_of_lt_of_le (HS'.out b hB) B4.size) (by omega) (by omega)).mono ?_
      rintro e w5 ⟨⟨bb,rfl,hbb⟩,b5⟩
      have H5:=Lib.hid hbb
      have B5:=bthen B4 b5
      replace X1:=Lib.hid (box_next X1.out b5)
      replace X2:=Lib.hid (box_next X2.out b5)
      clear hbb b5
      cases bb with
      | false=>
       go_wp2_with fail
       go_ret
       exact ⟨⟨false,rfl,fun h=> (by cases h),fun h=> absurd h (HNO.out fun k=> by cases H5.out.2 k.2.1)⟩,B5⟩
      | true=>
       have u1:w5.cell? ⟨w.heap.size,6,none⟩=some (.slice B xb.len d):=by rw [Lib.cell_of_heap X1.out];rfl
       have u2:w5.cell? ⟨w.heap.size+1,6,none⟩=some (.slice B' yb.len d'):=by rw [Lib.cell_of_heap X2.out];rfl
       go_wp2_with fail
       clear u1 u2
       refine (HB.out yb B B' d d' S S' _ (K1.out.2.1.keep fun b hB=> B5.block b (HS.out b hB)) (K2.out.2.1.keep fun b hB=> B5.block b (HS'.out b hB)) (fun b hB=> Nat.lt_of_lt_of_le (HS.out b hB) B5.size) (fun b hB=> Nat.lt_of_lt_of_le (HS'.out b hB) B5.size)).mono ?_
       rintro e w6 ⟨⟨bb,rfl,hbb⟩,b5⟩
       have H6:=Lib.hid hbb
       have B6:=bthen B5 b5
       replace X1:=Lib.hid (box_next X1.out b5)
       replace X2:=Lib.hid (box_next X2.out b5)
       clear hbb b5
       cases bb with
       | false=>
        go_wp2_with fail
        go_ret
        exact ⟨⟨false,rfl,fun h=> (by cases h),fun h=> absurd h (HNO.out fun k=> by cases H6.out.2 k.2.2.1)⟩,B6⟩
       | true=>
        have u1:w6.cell? ⟨w.heap.size,7,none⟩=some (.slice E xe.len f):=by rw [Lib.cell_of_heap X1.out];rfl
        have u2:w6.cell? ⟨w.heap.size+1,7,none⟩=some (.slice E' ye.len f'):=by rw [Lib.cell_of_heap X2.out];rfl
        go_wp2_with fail
        clear u1 u2
        refine (HE.out ye E E' f f' S S' _ (K1.out.2.2.keep fun b hB=> B6.block b (HS.out b hB)) (K2.out.2.2.keep fun b hB=> B6.block b (HS'.out b hB)) (fun b hB=> Nat.lt_of_lt_of_le (HS.out b hB) B6.size) (fun b hB=> Nat.lt_of_lt_of_le (HS'.out b hB) B6.size)).mono ?_
        rintro e w7 ⟨⟨bb,rfl,hbb⟩,b5⟩
        have H7:=Lib.hid hbb
        have B7:=bthen B6 b5
        replace X1:=Lib.hid (box_next X1.out b5)
        replace X2:=Lib.hid (box_next X2.out b5)
        clear hbb b5
        go_wp2_with fail
        go_ret
        exact ⟨⟨bb,rfl,fun h=> HYES.out ⟨⟨⟨by trivial,by trivial⟩,⟨by trivial,by trivial⟩,by trivial⟩,H5.out.1 (by trivial),H6.out.1 (by trivial),H7.out.1 h⟩,fun h=> H7.out.2 (Classical.byContradiction fun hc=> HNO.out (fun k=> hc k.2.2.2) h)⟩,B7⟩
     ·have d4:((xi:Int)==(yi:Int))=false:=by simp;omega
      go_enter Tryz.func77,Tryz.ntmps77
      go_wp2_with fail
      go_ret
      refine ⟨⟨false,rfl,?_⟩,?_⟩
      ·have:=HNO.out (fun h=> e4 h.1.2.2)
       simp [this]
      ·repeat (first | (with_reducible exact Below.refl _ _) | (with_reducible assumption) | refine Below.setCell ?_ (by simp <;> omega) _ | refine Below.alloc ?_ (by simp <;> omega) _ | refine Below.drew ?_)
    ·have s3:=fun w=> seql_no e3 w
     go_enter Tryz.func77,Tryz.ntmps77
     go_wp2_with fail
     go_ret
     refine ⟨⟨false,rfl,?_⟩,?_⟩
     ·have:=HNO.out (fun h=> e3 h.1.2.1.2)
      simp [this]
     ·repeat (first | (with_reducible exact Below.refl _ _) | (with_reducible assumption) | refine Below.setCell ?_ (by simp <;> omega) _ | refine Below.alloc ?_ (by simp <;> omega) _ | refine Below.drew ?_)
   ·have s2:=fun w=> seql_no e2 w
    go_enter Tryz.func77,Tryz.ntmps77
    go_wp2_with fail
    go_ret
    refine ⟨⟨false,rfl,?_⟩,?_⟩
    ·have:=HNO.out (fun h=> e2 h.1.2.1.1)
     simp [this]
    ·repeat (first | (with_reducible exact Below.refl _ _) | (with_reducible assumption) | refine Below.setCell ?_ (by simp <;> omega) _ | refine Below.alloc ?_ (by simp <;> omega) _ | refine Below.drew ?_)
  ·have s1:=fun w=> seql_no e1 w
   go_enter Tryz.func77,Tryz.ntmps77
   go_wp2_with fail
   go_ret
   refine ⟨⟨false,rfl,?_⟩,?_⟩
   ·have:=HNO.out (fun h=> e1 h.1.1.2)
    simp [this]
   ·repeat (first | (with_reducible exact Below.refl _ _) | (with_reducible assumption) | refine Below.setCell ?_ (by simp <;> omega) _ | refine Below.alloc ?_ (by simp <;> omega) _ | refine Below.drew ?_)
 ·have d0:(xk==yk)=false:=by simpa using e0
  go_enter Tryz.func77,Tryz.ntmps77
  go_wp2_with fail
  go_ret
  refine ⟨⟨false,rfl,?_⟩,?_⟩
  ·have:=HNO.out (fun h=> e0 h.1.1.1)
   simp [this]
  ·repeat (first | (with_reducible exact Below.refl _ _) | (with_reducible assumption) | refine Below.setCell ?_ (by simp <;> omega) _ | refine Below.alloc ?_ (by simp <;> omega) _ | refine Below.drew ?_)
theorem eqB_step (l:Sts)(ih: ∀x ∈ l.list,PSameS x):EqB l:=by
 intro m A B c c' S S' w h1 h2 hS hS'
 have HIH:=Lib.hid ih
 have H1:=Lib.hid h1
 have H2:=Lib.hid h2
 have HS:=Lib.hid hS
 have HS':=Lib.hid hS'
 clear ih h1 h2 hS hS'
 have hc1:=Tryz.call77
 by_cases hne:l.len=m.len
 ·obtain ⟨n,hn⟩: ∃n,l.len=n:=⟨_,rfl⟩
  have hn2:m.len=n:=by omega
  have HN:Hid (l.list.length=n):=Lib.hid (by rw [Sts.list_len];exact hn)
  have HN2:Hid (m.list.length=n):=Lib.hid (by rw [Sts.list_len];exact hn2)
  have hcap:=H1.out.cap
  rw [hn]at hcap
  rw [hn,hn2]
  clear hn hn2 hne
  go_enter Tryz.func76,Tryz.ntmps76
  go_wp2_with fail
  go_loopw [6,17] (fun _ i wr=> ∃k:Nat,k≤n∧i= .int .i64 k∧Hid (l.list.take k=m.list.take k)∧Below w.heap.size w wr) (fun _ i _=> n - (intOf i).toNat)
  case atStart=> exact ⟨0,by omega,rfl,Lib.hid (by simp),Below.refl _ _⟩
  case round=>
   obtain ⟨k,hk,rfl,H,hb⟩:=hrel
   by_cases hlt:k < n
   ·have hlt':k < l.list.length:=by rw [HN.out];exact hlt
    have hlt2:k < m.list.length:=by rw [HN2.out];exact hlt
    have hki:(k:Int) < (n:Int):=by omega
    obtain ⟨b1,off1,A1,c1,B1,d1,E1,f1,p1,q1,r1,⟨rfl,hb1⟩,hc1',g1⟩:=(H1.out.keep (w':=wr) fun b hB=> hb.block b (HS.out b hB)).at_ HS.out hlt'
    obtain ⟨b2,off2,A2,c2,B2,d2,E2,f2,p2,q2,r2,⟨rfl,hb2⟩,hc2,g2⟩:=(H2.out.keep (w':=wr) fun b hB=> hb.block b (HS'.out b hB)).at_ HS'.out hlt2
    have hst:=Lib.hid (take_same hlt' hlt2 H.out)
    have hno:=Lib.hid (ne_at hlt' hlt2)
    have hih:=Lib.hid (HIH.out _ (List.getElem_mem hlt'))
    have hz:=hb.size
    have hbw1:b1 < wr.heap.size:=by omega
    have hbw2:b2 < wr.heap.size:=by omega
    generalize l.list[k]=x at *
    generalize m.list[k]=y at *
    have G1:Hid (StP wr S x A1 c1 B1 d1 E1 f1):=Lib.hid g1
    have G2:Hid (StP wr S' y A2 c2 B2 d2 E2 f2):=Lib.hid g2
    obtain ⟨⟨⟨⟨x0,x1⟩,x2,x3⟩,⟨x4,x5⟩,x6,x7⟩,⟨x8,x9⟩,x10⟩:=at11 hc1'
    obtain ⟨⟨⟨⟨y0,y1⟩,y2,y3⟩,⟨y4,y5⟩,y6,y7⟩,⟨y8,y9⟩,y10⟩:=at11 hc2
    clear hc1' hc2 H g1 g2
    go_wp2_with fail
    refine (hih.out y A1 A2 c1 c2 B1 B2 d1 d2 E1 E2 f1 f2 p1 q1 r1 p2 q2 r2 S S' _ (G1.out.keep fun b hB=> two_new.block b (by have:=HS.out b hB;omega)) (G2.out.keep fun b hB=> two_new.block b (by have:=HS'.out b hB;omega)) (fun b hB=> by have:=HS.out b hB;simp;omega) (fun b hB=> by have:=HS'.out b hB;simp;omega)).mono ?_
    rintro e w5 ⟨⟨bb,rfl,hbb⟩,b5⟩
    have HBB:=Lib.hid hbb
    have B5:Below w.heap.size w w5:=bthen (bthen hb two_new) b5
    clear hbb b5
    cases bb with
    | false=>
     go_wp2_with fail
     go_ret
     exact ⟨⟨false,rfl,fun h=> (by cases h),fun h=> absurd (congrArg Sts.list h) (hno.out fun e=> by cases HBB.out.2 e)⟩,B5⟩
    | true=>
     go_wp2_with fail
     go_roundw
     case rel=> exact ⟨k+1,by omega,by go_num,Lib.hid (hst.out (HBB.out.1 (by trivial))),B5⟩
     case measure=> simp [intOf];omega
   ·obtain rfl:k=n:=by omega
    have hall:l=m:=by
     have:=H.out
     rw [List.take_of_length_le (by rw [HN.out];exact Nat.le_refl _),List.take_of_length_le (by rw [HN2.out];exact Nat.le_refl _)]at this
     exact list_inj this
    go_wp2_with fail
    go_ret
    exact ⟨⟨true,rfl,by simp [hall]⟩,hb⟩
 ·have hr:Hid (l≠m):=Lib.hid (fun e=> hne (by rw [e]))
  have d1:((l.len:Int) !=(m.len:Int))=true:=by simp;omega
  go_enter Tryz.func76,Tryz.ntmps76
  go_wp2_with fail
  go_ret
  exact ⟨⟨false,rfl,by simp [hr.out]⟩,Below.refl _ _⟩
theorem eqB_any: ∀b:Sts,EqB b:=fun b=>
 (Sts.indM (P:=PSameS) (Q:=fun b=> (∀x ∈ b.list,PSameS x)∧EqB b)
  (fun s h1 h2=> psameS_step s h1.2 h2.2)
  ⟨fun x hx=> (by cases hx),eqB_step .nil (fun x hx=> (by cases hx))⟩
  (fun s r h1 h2=> by
   have h: ∀x ∈ (Sts.cons s r).list,PSameS x:=fun x hx=> by
    rcases List.mem_cons.1 hx with rfl | hx
    ·exact h1
    ·exact h2.1 x hx
   exact ⟨h,eqB_step _ h⟩) b).2
end Go.Proofs.YtnbmpfdffoidaaaGreatDoor.Y
namespace Go.Proofs.YtnbmpfdffoidaaaGreatDoor.Y
open Go.RowKit O V S X
theorem eqC_any (l m:List Cl)(A B:Option Addr)(c c':Nat)(S S':Nat→Prop)(w:World)(h1:RC w S A c l)(h2:RC w S' B c' m)(hS: ∀b,S b→b < w.heap.size)(hS': ∀b,S' b→b < w.heap.size):
  Calls Tryz.prog 75 #[.slice A l.length c,.slice B m.length c'] w fun e w'=> RetQ (l=m) e∧Below w.heap.size w w':=by
 have H1:=Lib.hid h1
 have H2:=Lib.hid h2
 have HS:=Lib.hid hS
 have HS':=Lib.hid hS'
 have hcap:=h1.cap
 clear h1 h2 hS hS'
 by_cases hne:l.length=m.length
 ·obtain ⟨n,hn⟩: ∃n,l.length=n:=⟨_,rfl⟩
  have hn2:m.length=n:=by omega
  have HN:=Lib.hid hn
  have HN2:=Lib.hid hn2
  rw [hn]at hcap
  rw [hn,hn2]
  clear hn hn2 hne
  go_enter Tryz.func75,Tryz.ntmps75
  go_wp2_with fail
  go_loopw [5,13] (fun _ i wr=> ∃k:Nat,k≤n∧i= .int .i64 k∧Hid (l.take k=m.take k)∧Below w.heap.size w wr) (fun _ i _=> n - (intOf i).toNat)
  case atStart=> exact ⟨0,by omega,rfl,Lib.hid (by simp),Below.refl _ _⟩
  case round=>
   obtain ⟨k,hk,rfl,H,hb⟩:=hrel
   have HB:=Lib.hid hb
   clear hb
   by_cases hlt:k < n
   ·have hlt':k < l.length:=by rw [HN.out];exact hlt
    have hlt2:k < m.length:=by rw [HN2.out];exact hlt
    have hki:(k:Int) < (n:Int):=by omega
    obtain ⟨b1,off1,⟨rfl,hb1⟩,hc1⟩:=H1.out.at_ HS.out hlt'
    obtain ⟨b2,off2,⟨rfl,hb2⟩,hc2⟩:=H2.out.at_ HS'.out hlt2
    have hst:=Lib.hid (take_same hlt' hlt2 H.out)
    have hno:=Lib.hid (ne_at hlt' hlt2)
    have hz:=HB.out.size
    generalize l[k]=x at *
    generalize m[k]=y at *
    have HC1:=Lib.hid hc1
    have HC2:=Lib.hid hc2
    clear hc1 hc2 H
    by_cases hxy:x=y
    ·subst hxy
     have s3:=fun w=> cneq_no x w
     go_wp2_with fail
     refine wp_region_sched [(0,true),(1,true),(2,true),(3,true),(4,true),(5,true),(6,true),(7,true),(8,true)] (by kernel_rfl) (by kernel_rfl) (fun _ _ d _ _ h=> by cases d <;> exact h) ?_
     refine swith (fun W hW=> (HC1.out W (fun b hB=> (bthen HB.out.drew hW.out).block b (HS.out b hB)))) (fun q3=> ?_)
     refine swith (fun W hW=> (HC2.out W (fun b hB=> (bthen HB.out.drew hW.out).block b (HS'.out b hB)))) (fun q4=> ?_)
     repeat (first | (refine srE ?_;simp only [Act.put,sA,sB,sC]) | (refine skE ?_;simp only [Act.put,sA,sB,sC]))
     refine sdone ?_
     clear q3 q4
     go_wp2_with fail
     go_roundw
     case rel=> exact ⟨k+1,by omega,by go_num,Lib.hid (hst.out (by trivial)),HB.out.drew⟩
     case measure=> simp [intOf];omega
    ·have s3:=fun w=> cneq_yes hxy w
     have HX:=Lib.hid hxy
     clear hxy
     go_wp2_with fail
     refine wp_region_sched [(0,true),(1,true),(2,true),(3,true),(4,true),(5,true),(6,true),(7,true),(8,true)] (by kernel_rfl) (by kernel_rfl) (fun _ _ d _ _ h=> by cases d <;> exact h) ?_
     refine swith (fun W hW=> (HC1.out W (fun b hB=> (bthen HB.out.drew hW.out).block b (HS.out b hB)))) (fun q3=> ?_)
     refine swith (fun W hW=> (HC2.out W (fun b hB=> (bthen HB.out.drew hW.out).block b (HS'.out b hB)))) (fun q4=> ?_)
     repeat (first | (refine srE ?_;simp only [Act.put,sA,sB,sC]) | (refine skE ?_;simp only [Act.put,sA,sB,sC]))
     refine sdone ?_
     clear q3 q4
     go_wp2_with fail
     go_ret
     exact ⟨⟨false,rfl,fun h=> (by cases h),fun h=> absurd h (hno.out HX.out)⟩,HB.out.drew⟩
   ·obtain rfl:k=n:=by omega
    have hall:l=m:=by
     have:=H.out
     rwa [List.take_of_length_le (by rw [HN.out];exact Nat.le_refl _),List.take_of_length_le (by rw [HN2.out];exact Nat.le_refl _)]at this
    go_wp2_with fail
    go_ret
    exact ⟨⟨true,rfl,by simp [hall]⟩,HB.out⟩
 ·have hr:Hid (l≠m):=Lib.hid (fun e=> hne (by rw [e]))
  have d1:((l.length:Int) !=(m.length:Int))=true:=by simp;omega
  go_enter Tryz.func75,Tryz.ntmps75
  go_wp2_with fail
  go_ret
  exact ⟨⟨false,rfl,by simp [hr.out]⟩,Below.refl _ _⟩
theorem tb_ext {x y:Tb}:x=y ↔ (x.name=y.name∧x.rows=y.rows)∧x.cols=y.cols:=by
 cases x
 cases y
 simp [and_assoc]
theorem pc_ext {x y:Pc}:x=y ↔ x.name=y.name∧x.params=y.params∧x.body=y.body:=by
 cases x
 cases y
 simp
theorem sameTb_any (x y:Tb)(A B:Option Addr)(c c':Nat)(S S':Nat→Prop)(w:World)(h1:RC w S A c x.cols)(h2:RC w S' B c' y.cols)(hS: ∀b,S b→b < w.heap.size)(hS': ∀b,S' b→b < w.heap.size):
  Calls Tryz.prog 38 #[.agg #[sv x.name,nv x.rows,.slice A x.cols.length c],.agg #[sv y.name,nv y.rows,.slice B y.cols.length c']] w fun e w'=> RetQ (x=y) e∧Below w.heap.size w w':=by
 have HX:=Lib.hid (tb_ext (x:=x) (y:=y))
 have H1:=Lib.hid h1
 have H2:=Lib.hid h2
 have HS:=Lib.hid hS
 have HS':=Lib.hid hS'
 clear h1 h2 hS hS'
 have HNO:Hid (¬((x.name=y.name∧x.rows=y.rows)∧x.cols=y.cols)→x≠y):=Lib.hid fun h e=> h (HX.out.1 e)
 have HYES:Hid ((x.name=y.name∧x.rows=y.rows)∧x.cols=y.cols→x=y):=Lib.hid HX.out.2
 clear HX
 generalize x.name=xn at *
 generalize x.rows=xr at *
 generalize x.cols=xl at *
 generalize y.name=yn at *
 generalize y.rows=yr at *
 generalize y.cols=yl at *
 by_cases e0:xn=yn
 ·subst e0
  have s1:=fun w=> seql_yes xn w
  by_cases e1:xr=yr
  ·subst e1
   go_enter Tryz.func38,Tryz.ntmps38
   go_wp2_with fail
   refine (eqC_any xl yl A B c c' S S' _ (H1.out.keep fun b hB=> two_new.block b (HS.out b hB)) (H2.out.keep fun b hB=> two_new.block b (HS'.out b hB)) (fun b hB=> Nat.lt_of_lt_of_le (HS.out b hB) two_new.size) (fun b hB=> Nat.lt_of_lt_of_le (HS'.out b hB) two_new.size)).mono ?_
   rintro e w5 ⟨⟨bb,rfl,hbb⟩,b5⟩
   have HBB:=Lib.hid hbb
   have B5:=bthen two_new b5
   clear hbb b5
   go_wp2_with fail
   go_ret
   exact ⟨⟨bb,rfl,fun h=> HYES.out ⟨⟨by trivial,by trivial⟩,HBB.out.1 h⟩,fun h=> HBB.out.2 (Classical.byContradiction fun hc=> HNO.out (fun k=> hc k.2) h)⟩,B5⟩
  ·have d1:(xr==yr)=false:=by simpa using e1
   go_enter Tryz.func38,Tryz.ntmps38
   go_wp2_with fail
   go_ret
   exact ⟨⟨false,rfl,fun h=> (by cases h),fun h=> absurd h (HNO.out (fun h=> e1 h.1.2))⟩,two_new⟩
 ·have s1:=fun w=> seql_no e0 w
  go_enter Tryz.func38,Tryz.ntmps38
  go_wp2_with fail
  go_ret
  exact ⟨⟨false,rfl,fun h=> (by cases h),fun h=> absurd h (HNO.out (fun h=> e0 h.1.1))⟩,two_new⟩
theorem eqT_any (l m:List Tb)(A B:Option Addr)(c c':Nat)(S S':Nat→Prop)(w:World)(h1:RT w S A c l)(h2:RT w S' B c' m)(hS: ∀b,S b→b < w.heap.size)(hS': ∀b,S' b→b < w.heap.size):
  Calls Tryz.prog 37 #[.slice A l.length c,.slice B m.length c',.func (.func 38) #[] #[]] w fun e w'=> RetQ (l=m) e∧Below w.heap.size w w':=by
 have H1:=Lib.hid h1
 have H2:=Lib.hid h2
 have HS:=Lib.hid hS
 have HS':=Lib.hid hS'
 have hcap:=h1.cap
 clear h1 h2 hS hS'
 have hc1:=Tryz.call38
 by_cases hne:l.length=m.length
 ·obtain ⟨n,hn⟩: ∃n,l.length=n:=⟨_,rfl⟩
  have hn2:m.length=n:=by omega
  have HN:=Lib.hid hn
  have HN2:=Lib.hid hn2
  rw [hn]at hcap
  rw [hn,hn2]
  clear hn hn2 hne
  go_enter Tryz.func37,Tryz.ntmps37
  go_wp2_with fail
  go_loopw [6,17] (fun _ i wr=> ∃k:Nat,k≤n∧i= .int .i64 k∧Hid (l.take k=m.take k)∧Below w.heap.size w wr) (fun _ i _=> n - (intOf i).toNat)
  case atStart=> exact ⟨0,by omega,rfl,Lib.hid (by simp),Below.refl _ _⟩
  case round=>
   obtain ⟨k,hk,rfl,H,hb⟩:=hrel
   by_cases hlt:k < n
   ·have hlt':k < l.length:=by rw [HN.out];exact hlt
    have hlt2:k < m.length:=by rw [HN2.out];exact hlt
    have hki:(k:Int) < (n:Int):=by omega
    have hst:=Lib.hid (take_same hlt' hlt2 H.out)
    have hno:=Lib.hid (ne_at hlt' hlt2)
    have hz:=hb.size
    obtain ⟨b1,off1,A1,c1,⟨rfl,hb1⟩,g1,hc1'⟩:=(H1.out.keep (w':=wr) fun b hB=> hb.block b (HS.out b hB)).at_ HS.out hlt'
    obtain ⟨b2,off2,A2,c2,⟨rfl,hb2⟩,g2,hc2⟩:=(H2.out.keep (w':=wr) fun b hB=> hb.block b (HS'.out b hB)).at_ HS'.out hlt2
    have hbw1:b1 < wr.heap.size:=by omega
    have hbw2:b2 < wr.heap.size:=by omega
    generalize l[k]=x at *
    generalize m[k]=y at *
    obtain ⟨⟨x0,x1⟩,x2⟩:=hc1' wr fun _ _=> rfl
    obtain ⟨⟨y0,y1⟩,y2⟩:=hc2 wr fun _ _=> rfl
    have G1:=Lib.hid g1
    have G2:=Lib.hid g2
    clear hc1' hc2 g1 g2
    clear H
    go_wp2_with fail
    refine (sameTb_any x y A1 A2 c1 c2 S S' _ (G1.out.keep fun b hB=> two_new.block b (by have:=HS.out b hB;omega)) (G2.out.keep fun b hB=> two_new.block b (by have:=HS'.out b hB;omega)) (fun b hB=> by have:=HS.out b hB;simp;omega) (fun b hB=> by have:=HS'.out b hB;simp;omega)).mono ?_
    rintro e w5 ⟨⟨bb,rfl,hbb⟩,b5⟩
    have HBB:=Lib.hid hbb
    have B5:Below w.heap.size w w5:=bthen (bthen hb two_new) b5
    clear hbb b5
    cases bb with
    | false=>
     go_wp2_with fail
     go_ret
     exact ⟨⟨false,rfl,fun h=> (by cases h),fun h=> absurd h (hno.out fun e=> by cases HBB.out.2 e)⟩,B5⟩
    | true=>
     go_wp2_with fail
     go_roundw
     case rel=> exact ⟨k+1,by omega,by go_num,Lib.hid (hst.out (HBB.out.1 (by trivial))),B5⟩
     case measure=> simp [intOf];omega
   ·obtain rfl:k=n:=by omega
    have hall:l=m:=by
     have:=H.out
     rwa [List.take_of_length_le (by rw [HN.out];exact Nat.le_refl _),List.take_of_length_le (by rw [HN2.out];exact Nat.le_refl _)]at this
    go_wp2_with fail
    go_ret
    exact ⟨⟨true,rfl,by simp [hall]⟩,hb⟩
 ·have hr:Hid (l≠m):=Lib.hid (fun e=> hne (by rw [e]))
  have d1:((l.length:Int) !=(m.length:Int))=true:=by simp;omega
  go_enter Tryz.func37,Tryz.ntmps37
  go_wp2_with fail
  go_ret
  exact ⟨⟨false,rfl,by simp [hr.out]⟩,Below.refl _ _⟩
theorem at6 {W:World}{b o:Nat}{x0 x1 x2 x3 x4 x5:Value}(h: ∀j,j < 6→W.cell? ⟨b,o+j,none⟩=[x0,x1,x2,x3,x4,x5][j]?):
  ((W.cell? ⟨b,o,none⟩=some x0∧W.cell? ⟨b,o+1,none⟩=some x1)∧W.cell? ⟨b,o+2,none⟩=some x2∧W.cell? ⟨b,o+3,none⟩=some x3)∧W.cell? ⟨b,o+4,none⟩=some x4∧W.cell? ⟨b,o+5,none⟩=some x5:=
 ⟨⟨⟨h 0 (by omega),h 1 (by omega)⟩,h 2 (by omega),h 3 (by omega)⟩,h 4 (by omega),h 5 (by omega)⟩
theorem samePc_any (x y:Pc)(A A':Option Addr)(c c':Nat)(B B':Option Addr)(d d':Nat)(p q r p' q' r':Int)(S S':Nat→Prop)(w:World)(h1:RC w S A c x.params∧RS w S B d x.body)(h2:RC w S' A' c' y.params∧RS w S' B' d' y.body)(hS: ∀b,S b→b < w.heap.size)(hS': ∀b,S' b→b < w.heap.size):
  Calls Tryz.prog 40 #[.agg #[sv x.name,.slice A x.params.length c,.slice B x.body.len d,nv p,nv q,nv r],.agg #[sv y.name,.slice A' y.params.length c',.slice B' y.body.len d',nv p',nv q',nv r']] w fun e w'=> RetQ (x=y) e∧Below w.heap.size w w':=by
 have HX:=Lib.hid (pc_ext (x:=x) (y:=y))
 have H1:=Lib.hid h1
 have H2:=Lib.hid h2
 have HS:=Lib.hid hS
 have HS':=Lib.hid hS'
 clear h1 h2 hS hS'
 have HNO:Hid (¬(x.name=y.name∧x.params=y.params∧x.body=y.body)→x≠y):=Lib.hid fun h e=> h (HX.out.1 e)
 have HYES:Hid (x.name=y.name∧x.params=y.params∧x.body=y.body→x=y):=Lib.hid HX.out.2
 clear HX
 generalize x.name=xn at *
 generalize x.params=xl at *
 generalize x.body=xb at *
 generalize y.name=yn at *
 generalize y.params=yl at *
 generalize y.body=yb at *
 by_cases e0:xn=yn
 ·subst e0
  have s1:=fun w=> seql_yes xn w
  go_enter Tryz.func40,Tryz.ntmps40
  go_wp2_with fail
  have X1:Hid (((w.alloc (pcO xn (.slice A xl.length c) (.slice B xb.len d) p q r)).alloc (pcO xn (.slice A' yl.length c') (.slice B' yb.len d') p' q' r')).heap[w.heap.size]? =some (pcX xn (.slice A xl.length c) (.slice B xb.len d) p q r)):=Lib.hid (alloc_old' (alloc_at rfl))
  have X2:Hid (((w.alloc (pcO xn (.slice A xl.length c) (.slice B xb.len d) p q r)).alloc (pcO xn (.slice A' yl.length c') (.slice B' yb.len d') p' q' r')).heap[w.heap.size+1]? =some (pcX xn (.slice A' yl.length c') (.slice B' yb.len d') p' q' r')):=Lib.hid (alloc_at (by simp))
  refine (eqC_any xl yl A A' c c' S S' _ (H1.out.1.keep fun b hB=> two_new.block b (HS.out b hB)) (H2.out.1.keep fun b hB=> two_new.block b (HS'.out b hB)) (fun b hB=> Nat.lt_of_lt_of_le (HS.out b hB) two_new.size) (fun b hB=> Nat.lt_of_lt_of_le (HS'.out b hB) two_new.size)).mono ?_
  rintro e w5 ⟨⟨bb,rfl,hbb⟩,b5⟩
  have HBB:=Lib.hid hbb
  have B5:=bthen two_new b5
  replace X1:=Lib.hid (box_next X1.out b5)
  replace X2:=Lib.hid (box_next X2.out b5)
  clear hbb b5
  cases bb with
  | false=>
   go_wp2_with fail
   go_ret
   exact ⟨⟨false,rfl,fun h=> (by cases h),fun h=> absurd h (HNO.out fun k=> by cases HBB.out.2 k.2.1)⟩,B5⟩
  | true=>
   have u1:w5.cell? ⟨w.heap.size,2,none⟩=some (.slice B xb.len d):=by rw [Lib.cell_of_heap X1.out];rfl
   have u2:w5.cell? ⟨w.heap.size+1,2,none⟩=some (.slice B' yb.len d'):=by rw [Lib.cell_of_heap X2.out];rfl
   go_wp2_with fail
   clear u1 u2
   refine (eqB_any xb yb B B' d d' S S' _ (H1.out.2.keep fun b hB=> B5.block b (HS.out b hB)) (H2.out.2.keep fun b hB=> B5.block b (HS'.out b hB)) (fun b hB=> Nat.lt_of_lt_of_le (HS.out b hB) B5.size) (fun b hB=> Nat.lt_of_lt_of_le (HS'.out b hB) B5.size)).mono ?_
   rintro e w6 ⟨⟨bb,rfl,hbb⟩,b6⟩
   have HC:=Lib.hid hbb
   have B6:=bthen B5 b6
   clear hbb b6
   go_wp2_with fail
   go_ret
   exact ⟨⟨bb,rfl,fun h=> HYES.out ⟨by trivial,HBB.out.1 (by trivial),HC.out.1 h⟩,fun h=> HC.out.2 (Classical.byContradiction fun hc=> HNO.out (fun k=> hc k.2.2) h)⟩,B6⟩
 ·have s1:=fun w=> seql_no e0 w
  go_enter Tryz.func40,Tryz.ntmps40
  go_wp2_with fail
  go_ret
  exact ⟨⟨false,rfl,fun h=> (by cases h),fun h=> absurd h (HNO.out (fun h=> e0 h.1))⟩,two_new⟩
theorem eqP_any (l m:List Pc)(A B:Option Addr)(c c':Nat)(S S':Nat→Prop)(w:World)(h1:RP w S A c l)(h2:RP w S' B c' m)(hS: ∀b,S b→b < w.heap.size)(hS': ∀b,S' b→b < w.heap.size):
  Calls Tryz.prog 39 #[.slice A l.length c,.slice B m.length c',.func (.func 40) #[] #[]] w fun e w'=> RetQ (l=m) e∧Below w.heap.size w w':=by
 have H1:=Lib.hid h1
 have H2:=Lib.hid h2
 have HS:=Lib.hid hS
 have HS':=Lib.hid hS'
 have hcap:=h1.cap
 clear h1 h2 hS hS'
 have hc1:=Tryz.call40
 by_cases hne:l.length=m.length
 ·obtain ⟨n,hn⟩: ∃n,l.length=n:=⟨_,rfl⟩
  have hn2:m.length=n:=by omega
  have HN:=Lib.hid hn
  have HN2:=Lib.hid hn2
  rw [hn]at hcap
  rw [hn,hn2]
  clear hn hn2 hne
  go_enter Tryz.func39,Tryz.ntmps39
  go_wp2_with fail
  go_loopw [6,17] (fun _ i wr=> ∃k:Nat,k≤n∧i= .int .i64 k∧Hid (l.take k=m.take k)∧Below w.heap.size w wr) (fun _ i _=> n - (intOf i).toNat)
  case atStart=> exact ⟨0,by omega,rfl,Lib.hid (by simp),Below.refl _ _⟩
  case round=>
   obtain ⟨k,hk,rfl,H,hb⟩:=hrel
   by_cases hlt:k < n
   ·have hlt':k < l.length:=by rw [HN.out];exact hlt
    have hlt2:k < m.length:=by rw [HN2.out];exact hlt
    have hki:(k:Int) < (n:Int):=by omega
    have hst:=Lib.hid (take_same hlt' hlt2 H.out)
    have hno:=Lib.hid (ne_at hlt' hlt2)
    have hz:=hb.size
    obtain ⟨b1,off1,A1,c1,B1,d1,p1,q1,r1,⟨rfl,hb1⟩,g1,hc1'⟩:=(H1.out.keep (w':=wr) fun b hB=> hb.block b (HS.out b hB)).at_ HS.out hlt'
    obtain ⟨b2,off2,A2,c2,B2,d2,p2,q2,r2,⟨rfl,hb2⟩,g2,hc2⟩:=(H2.out.keep (w':=wr) fun b hB=> hb.block b (HS'.out b hB)).at_ HS'.out hlt2
    have hbw1:b1 < wr.heap.size:=by omega
    have hbw2:b2 < wr.heap.size:=by omega
    generalize l[k]=x at *
    generalize m[k]=y at *
    obtain ⟨⟨⟨x0,x1⟩,x2,x3⟩,x4,x5⟩:=at6 hc1'
    obtain ⟨⟨⟨y0,y1⟩,y2,y3⟩,y4,y5⟩:=at6 hc2
    have G1:=Lib.hid g1
    have G2:=Lib.hid g2
    clear hc1' hc2 g1 g2
    clear H
    go_wp2_with fail
    refine (samePc_any x y A1 A2 c1 c2 B1 B2 d1 d2 p1 q1 r1 p2 q2 r2 S S' _ ⟨G1.out.1.keep fun b hB=> two_new.block b (by have:=HS.out b hB;omega),G1.out.2.keep fun b hB=> two_new.block b (by have:=HS.out b hB;omega)⟩ ⟨G2.out.1.keep fun b hB=> two_new.block b (by have:=HS'.out b hB;omega),G2.out.2.keep fun b hB=> two_new.block b (by have:=HS'.out b hB;omega)⟩ (fun b hB=> by have:=HS.out b hB;simp;omega) (fun b hB=> by have:=HS'.out b hB;simp;omega)).mono ?_
    rintro e w5 ⟨⟨bb,rfl,hbb⟩,b5⟩
    have HBB:=Lib.hid hbb
    have B5:Below w.heap.size w w5:=bthen (bthen hb two_new) b5
    clear hbb b5
    cases bb with
    | false=>
     go_wp2_with fail
     go_ret
     exact ⟨⟨false,rfl,fun h=> (by cases h),fun h=> absurd h (hno.out fun e=> by cases HBB.out.2 e)⟩,B5⟩
    | true=>
     go_wp2_with fail
     go_roundw
     case rel=> exact ⟨k+1,by omega,by go_num,Lib.hid (hst.out (HBB.out.1 (by trivial))),B5⟩
     case measure=> simp [intOf];omega
   ·obtain rfl:k=n:=by omega
    have hall:l=m:=by
     have:=H.out
     rwa [List.take_of_length_le (by rw [HN.out];exact Nat.le_refl _),List.take_of_length_le (by rw [HN2.out];exact Nat.le_refl _)]at this
    go_wp2_with fail
    go_ret
    exact ⟨⟨true,rfl,by simp [hall]⟩,hb⟩
 ·have hr:Hid (l≠m):=Lib.hid (fun e=> hne (by rw [e]))
  have d1:((l.length:Int) !=(m.length:Int))=true:=by simp;omega
  go_enter Tryz.func39,Tryz.ntmps39
  go_wp2_with fail
  go_ret
  exact ⟨⟨false,rfl,by simp [hr.out]⟩,Below.refl _ _⟩
theorem sameWk_any (tl tl':List Tb)(pl pl':List Pc)(TA TA':Option Addr)(tc tc':Nat)(PA PA':Option Addr)(pc pc':Nat)(S S':Nat→Prop)(w:World)(h1:RT w S TA tc tl∧RP w S PA pc pl)(h2:RT w S' TA' tc' tl'∧RP w S' PA' pc' pl')(hS: ∀b,S b→b < w.heap.size)(hS': ∀b,S' b→b < w.heap.size):
  Calls Tryz.prog 13 #[.agg #[.slice TA tl.length tc,.slice PA pl.length pc],.agg #[.slice TA' tl'.length tc',.slice PA' pl'.length pc']] w fun e w'=> RetQ (tl=tl'∧pl=pl') e∧Below w.heap.size w w':=by
 have H1:=Lib.hid h1
 have H2:=Lib.hid h2
 have HS:=Lib.hid hS
 have HS':=Lib.hid hS'
 clear h1 h2 hS hS'
 go_enter Tryz.func13,Tryz.ntmps13
 go_wp2_with fail
 have X1:Hid (((w.alloc (.cells #[.slice TA tl.length tc,.slice PA pl.length pc] 25)).alloc (.cells #[.slice TA' tl'.length tc',.slice PA' pl'.length pc'] 25)).heap[w.heap.size]? =some (wkX (.slice TA tl.length tc) (.slice PA pl.length pc))):=Lib.hid (alloc_old' (alloc_at rfl))
 have X2:Hid (((w.alloc (.cells #[.slice TA tl.length tc,.slice PA pl.length pc] 25)).alloc (.cells #[.slice TA' tl'.length tc',.slice PA' pl'.length pc'] 25)).heap[w.heap.size+1]? =some (wkX (.slice TA' tl'.length tc') (.slice PA' pl'.length pc'))):=Lib.hid (alloc_at (by simp))
 refine (eqT_any tl tl' TA TA' tc tc' S S' _ (H1.out.1.keep fun b hB=> two_new.block b (HS.out b hB)) (H2.out.1.keep fun b hB=> two_new.block b (HS'.out b hB)) (fun b hB=> Nat.lt_of_lt_of_le (HS.out b hB) two_new.size) (fun b hB=> Nat.lt_of_lt_of_le (HS'.out b hB) two_new.size)).mono ?_
 rintro e w5 ⟨⟨bb,rfl,hbb⟩,b5⟩
 have HBB:=Lib.hid hbb
 have B5:=bthen two_new b5
 replace X1:=Lib.hid (box_next X1.out b5)
 replace X2:=Lib.hid (box_next X2.out b5)
 clear hbb b5
 cases bb with
 | false=>
  go_wp2_with fail
  go_ret
  exact ⟨⟨false,rfl,fun h=> (by cases h),fun h=> by cases HBB.out.2 h.1⟩,B5⟩
 | true=>
  have u1:w5.cell? ⟨w.heap.size,1,none⟩=some (.slice PA pl.length pc):=by rw [Lib.cell_of_heap X1.out];rfl
  have u2:w5.cell? ⟨w.heap.size+1,1,none⟩=some (.slice PA' pl'.length pc'):=by rw [Lib.cell_of_heap X2.out];rfl
  go_wp2_with fail
  clear u1 u2
  refine (eqP_any pl pl' PA PA' pc pc' S S' _ (H1.out.2.keep fun b hB=> B5.block b (HS.out b hB)) (H2.out.2.keep fun b hB=> B5.block b (HS'.out b hB)) (fun b hB=> Nat.lt_of_lt_of_le (HS.out b hB) B5.size) (fun b hB=> Nat.lt_of_lt_of_le (HS'.out b hB) B5.size)).mono ?_
  rintro e w6 ⟨⟨bb,rfl,hbb⟩,b6⟩
  have HC:=Lib.hid hbb
  have B6:=bthen B5 b6
  clear hbb b6
  go_wp2_with fail
  go_ret
  exact ⟨⟨bb,rfl,fun h=> ⟨HBB.out.1 (by trivial),HC.out.1 h⟩,fun h=> HC.out.2 h.2⟩,B6⟩
end Go.Proofs.YtnbmpfdffoidaaaGreatDoor.Y
