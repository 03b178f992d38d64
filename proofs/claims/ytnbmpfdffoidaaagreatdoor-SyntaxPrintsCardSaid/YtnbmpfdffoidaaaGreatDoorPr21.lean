/- Texts of the proof, joined: SynSameW, BeW. -/
import Derived.Test.YtnbmpfdffoidaaaGreatDoorPr16
import Derived.Test.YtnbmpfdffoidaaaGreatDoorPr20
set_option linter.unusedVariables false
set_option linter.unusedSimpArgs false
set_option maxHeartbeats 8000000
set_option maxRecDepth 100000
namespace Go.Proofs.YtnbmpfdffoidaaaGreatDoor.Y
open Go.RowKit O V S X
theorem Wk.same {x y:Wk}(h1:x.tables=y.tables)(h2:x.procs=y.procs):x=y:=by
 cases x;cases y;simp_all
def RT (w:World)(S:Nat→Prop)(A:Option Addr)(c:Nat)(l:List Tb):Prop:= ∃es,Row w S 3 A l.length c es∧Reps (TbR w S) l es
def RP (w:World)(S:Nat→Prop)(A:Option Addr)(c:Nat)(l:List Pc):Prop:= ∃es,Row w S 6 A l.length c es∧Reps (PcR w S) l es
theorem RT.keep {w w':World}{S:Nat→Prop}{A:Option Addr}{c:Nat}{l:List Tb}(h:RT w S A c l)(hk: ∀b,S b→w'.heap[b]? =w.heap[b]?):RT w' S A c l:=by
 obtain ⟨es,h1,h2⟩:=h
 exact ⟨es,h1.keep hk,h2.imp fun x vs=> TbR.keep hk x vs⟩
theorem RP.keep {w w':World}{S:Nat→Prop}{A:Option Addr}{c:Nat}{l:List Pc}(h:RP w S A c l)(hk: ∀b,S b→w'.heap[b]? =w.heap[b]?):RP w' S A c l:=by
 obtain ⟨es,h1,h2⟩:=h
 exact ⟨es,h1.keep hk,h2.imp fun x vs=> PcR.keep hk x vs⟩
theorem RT.cap {w:World}{S:Nat→Prop}{A:Option Addr}{c:Nat}{l:List Tb}(h:RT w S A c l):l.length≤c∧c≤9223372036854775807:=by
 obtain ⟨es,h1,_⟩:=h
 exact h1.cap
theorem RP.cap {w:World}{S:Nat→Prop}{A:Option Addr}{c:Nat}{l:List Pc}(h:RP w S A c l):l.length≤c∧c≤9223372036854775807:=by
 obtain ⟨es,h1,_⟩:=h
 exact h1.cap
theorem RT.at_ {w:World}{S:Nat→Prop}{l:List Tb}{A:Option Addr}{c:Nat}(h:RT w S A c l){B:Nat}(hS: ∀b,S b→b < B){i:Nat}(hi:i < l.length):
  ∃b off A' c',(A=some ⟨b,off,none⟩∧b < B)∧RC w S A' c' l[i].cols∧∀W:World,(∀b,S b→W.heap[b]? =w.heap[b]?)→(W.cell? ⟨b,off+i * 3,none⟩=some (sv l[i].name)∧W.cell? ⟨b,off+i * 3+1,none⟩=some (nv l[i].rows))∧W.cell? ⟨b,off+i * 3+2,none⟩=some (.slice A' l[i].cols.length c'):=by
 obtain ⟨es,h1,h2⟩:=h
 obtain ⟨b,off,vs,e,hb,⟨A',c',es',rfl,h3,h4⟩,hc⟩:=(h1.rd hS).elem TbR.size h2 hi (by omega)
 refine ⟨b,off,A',c',⟨e,hb⟩,⟨es',h3,h4⟩,fun W hW=> ?_⟩
 obtain ⟨b',off',e',hS',_⟩:=h1.pos (by have:=h1.len;omega)
 rw [e]at e'
 injection e' with e'
 injection e' with e1 e2
 subst e1 e2
 have hk: ∀j,W.cell? ⟨b,j,none⟩=w.cell? ⟨b,j,none⟩:=fun j=> World.cell?_of_block (a:=⟨b,j,none⟩) (hW b hS')
 refine ⟨⟨?_,?_⟩,?_⟩ <;> rw [hk]
 ·exact hc 0 (by omega)
 ·exact hc 1 (by omega)
 ·exact hc 2 (by omega)
theorem RP.at_ {w:World}{S:Nat→Prop}{l:List Pc}{A:Option Addr}{c:Nat}(h:RP w S A c l){B:Nat}(hS: ∀b,S b→b < B){i:Nat}(hi:i < l.length):
  ∃b off A' c' B' d',∃p q r:Int,(A=some ⟨b,off,none⟩∧b < B)∧(RC w S A' c' l[i].params∧RS w S B' d' l[i].body)∧∀j,j < 6→w.cell? ⟨b,off+i * 6+j,none⟩=[sv l[i].name,.slice A' l[i].params.length c',.slice B' l[i].body.len d',nv p,nv q,nv r][j]? :=by
 obtain ⟨es,h1,h2⟩:=h
 obtain ⟨b,off,vs,e,hb,⟨A',c',es',B',d',bs,p,q,r,rfl,⟨h3,h4⟩,h5,h6⟩,hc⟩:=(h1.rd hS).elem PcR.size h2 hi (by omega)
 exact ⟨b,off,A',c',B',d',p,q,r,⟨e,hb⟩,⟨⟨es',h3,h4⟩,⟨bs,h5,h6⟩⟩,hc⟩
theorem box6 {W:World}{g:Nat}{a b c d e f:Value}{T:TypeId}(h:W.heap[g]? =some (.cells #[a,b,c,d,e,f] T (0,0))):
  ((W.cell? ⟨g,0,none⟩=some a∧W.cell? ⟨g,1,none⟩=some b)∧W.cell? ⟨g,2,none⟩=some c∧W.cell? ⟨g,3,none⟩=some d)∧W.cell? ⟨g,4,none⟩=some e∧W.cell? ⟨g,5,none⟩=some f:=by
 refine ⟨⟨⟨?_,?_⟩,?_,?_⟩,?_,?_⟩ <;> (rw [Lib.cell_of_heap h];rfl)
theorem box2 {W:World}{g:Nat}{a b:Value}{T:TypeId}(h:W.heap[g]? =some (.cells #[a,b] T (0,0))):W.cell? ⟨g,0,none⟩=some a∧W.cell? ⟨g,1,none⟩=some b:=by
 refine ⟨?_,?_⟩ <;> (rw [Lib.cell_of_heap h];rfl)
theorem sameW_any (t u:Wk)(v v':Value)(S S':Nat→Prop)(w:World)(h1:WkR w S t v)(h2:WkR w S' u v')(hS: ∀b,S b→b < w.heap.size)(hS': ∀b,S' b→b < w.heap.size):
  Calls Tryz.prog 9 #[v,v',.bool false] w fun e w'=> RetQ (t=u) e∧Below w.heap.size w w':=by
 obtain ⟨A,c,es,B,d,fs,rfl,ha,hb,hc⟩:=h1
 obtain ⟨A',c',es',B',d',fs',rfl,ha',hb',hc'⟩:=h2
 have hT1:RT w S A c t.tables:=⟨_,ha⟩
 have hT2:RT w S' A' c' u.tables:=⟨_,ha'⟩
 have hP1:RP w S B d t.procs:=⟨_,hb,hc⟩
 have hP2:RP w S' B' d' u.procs:=⟨_,hb',hc'⟩
 have k1:=hT1.cap
 have k2:=hT2.cap
 have k3:=hP1.cap
 have k4:=hP2.cap
 have T1:=Lib.hid hT1
 have T2:=Lib.hid hT2
 have P1:=Lib.hid hP1
 have P2:=Lib.hid hP2
 have HS:=Lib.hid hS
 have HS':=Lib.hid hS'
 clear ha hb hc ha' hb' hc' hT1 hT2 hP1 hP2 hS hS'
 have hwx:t=u ↔ t.tables=u.tables∧t.procs=u.procs:=⟨fun e=> by subst e;exact ⟨rfl,rfl⟩,fun e=> Wk.same e.1 e.2⟩
 have HWX:=Lib.hid hwx
 clear hwx
 have D0:Below w.heap.size w ((w.alloc (.cells #[.slice A t.tables.length c,.slice B t.procs.length d] 25)).alloc (.cells #[.slice A' u.tables.length c',.slice B' u.procs.length d'] 25)):=by repeat (first | exact Below.refl _ _ | refine Below.alloc ?_ (by first | omega | (simp <;> omega)) _)
 by_cases e0:t.tables.length=u.tables.length
 ·by_cases e1:t.procs.length=u.procs.length
  ·obtain ⟨n,hn⟩: ∃n,t.tables.length=n:=⟨_,rfl⟩
   obtain ⟨m,hm⟩: ∃m,t.procs.length=m:=⟨_,rfl⟩
   have hn2:u.tables.length=n:=by omega
   have hm2:u.procs.length=m:=by omega
   have HN:=Lib.hid hn
   have HN2:=Lib.hid hn2
   have HM:=Lib.hid hm
   have HM2:=Lib.hid hm2
   rw [hn]at k1
   rw [hn2]at k2
   rw [hm]at k3
   rw [hm2]at k4
   rw [hn,hn2,hm,hm2]at D0
   rw [hn,hn2,hm,hm2]
   clear hn hn2 hm hm2 e0 e1
   go_enter Tryz.func9,Tryz.ntmps9
   go_upto_region 3 with fail
   obtain ⟨w2,hw2⟩: ∃W,(w.alloc (.cells #[.slice A n c,.slice B m d] 25)).alloc (.cells #[.slice A' n c',.slice B' m d'] 25)=W:=⟨_,rfl⟩
   have X1:Hid (w2.heap[w.heap.size]? =some (.cells #[.slice A n c,.slice B m d] 25 (0,0))):=Lib.hid (by rw [← hw2];exact alloc_old' (alloc_at rfl))
   have X2:Hid (w2.heap[w.heap.size+1]? =some (.cells #[.slice A' n c',.slice B' m d'] 25 (0,0))):=Lib.hid (by rw [← hw2];exact alloc_at (by simp))
   rw [hw2]at D0⊢
   clear hw2
   obtain ⟨u0,u1⟩:=box2 X1.out
   go_wp2_with fail
   clear u0 u1
   go_loopw [6,31] (fun _ i wr=> ∃k:Nat,k≤n∧i= .int .i64 k∧Hid (t.tables.take k=u.tables.take k)∧Hid (Below w2.heap.size w2 wr)) (fun _ i _=> n - (intOf i).toNat)
   case atStart=> exact ⟨0,by omega,rfl,Lib.hid (by simp),Lib.hid (Below.refl _ _)⟩
   case round=>
    obtain ⟨k,hk,rfl,H,hb⟩:=hrel
    have hzd:=D0.size
    have hzr:=hb.out.size
    by_cases hlt:k < n
    ·have hlt':k < t.tables.length:=by rw [HN.out];exact hlt
     have hlt2:k < u.tables.length:=by rw [HN2.out];exact hlt
     have hki:(k:Int) < (n:Int):=by omega
     obtain ⟨b1,off1,A1,c1,⟨rfl,hb1⟩,rc1,hc1⟩:=T1.out.at_ HS.out hlt'
     obtain ⟨b2,off2,A2,c2,⟨rfl,hb2⟩,rc2,hc2⟩:=T2.out.at_ HS'.out hlt2
     have hst:=Lib.hid (take_same hlt' hlt2 H.out)
     have hno:=Lib.hid (ne_at hlt' hlt2)
     have RC1:=Lib.hid rc1
     have RC2:=Lib.hid rc2
     have HC1:=Lib.hid hc1
     have HC2:=Lib.hid hc2
     clear rc1 rc2 hc1 hc2 H
     generalize t.tables[k]=x at *
     generalize u.tables[k]=y at *
     replace X1:=Lib.hid (box_next X1.out hb.out)
     replace X2:=Lib.hid (box_next X2.out hb.out)
     have DR:=Lib.hid (D0.trans (hb.out.mono hzd))
     go_wp2_with fail
     refine wp_region_sched [(0,true),(1,true),(2,true),(3,true),(4,true),(5,true),(6,true),(7,true),(8,true),(9,true),(10,false),(11,true)] (by kernel_rfl) (by kernel_rfl) (fun _ _ d _ _ h=> by cases d <;> exact h) ?_
     refine swith (fun W hW=> (box2 (box_next X1.out ((Below.refl _ _).drew.trans hW.out)))) (fun q1=> ?_)
     refine swith (fun W hW=> (box2 (box_next X2.out ((Below.refl _ _).drew.trans hW.out)))) (fun q2=> ?_)
     refine swith (fun W hW=> (HC1.out W (fun b hB=> (bthen DR.out ((Below.refl _ _).drew.trans hW.out)).block b (HS.out b hB)))) (fun q3=> ?_)
     refine swith (fun W hW=> (HC2.out W (fun b hB=> (bthen DR.out ((Below.refl _ _).drew.trans hW.out)).block b (HS'.out b hB)))) (fun q4=> ?_)
     repeat (first | (refine srE ?_;simp only [Act.put,sA,sB,sC]) | (refine skE ?_;simp only [Act.put,sA,sB,sC]))
     refine scall rfl rfl (fun K hK=> ?_)
     go_simp
     refine (sameTab_any x y A1 A2 c1 c2 S S' _ (RC1.out.keep fun b hB=> DR.out.drew.block b (HS.out b hB)) (RC2.out.keep fun b hB=> DR.out.drew.block b (HS'.out b hB)) (fun b hB=> Nat.lt_of_lt_of_le (HS.out b hB) DR.out.drew.size) (fun b hB=> Nat.lt_of_lt_of_le (HS'.out b hB) DR.out.drew.size)).mono ?_;rintro e w5 ⟨⟨g1,rfl,hg1⟩,b5⟩
     go_wp2_with fail
     refine hK.out _ _ (by exact b5) ?_
     clear hK K
     try simp only [Act.put,sA,sB,sC]
     have HG1:=Lib.hid hg1
     clear hg1
     have D5:=Lib.hid (bthen hb.out.drew b5)
     cases g1 with
     | false=>
      repeat (first | (refine srE ?_;simp only [Act.put,sA,sB,sC]) | (refine skE ?_;simp only [Act.put,sA,sB,sC]))
      refine sdone ?_
      go_wp2_with fail
      go_ret
      refine ⟨⟨false,rfl,?_⟩,D0.trans (D5.out.mono D0.size)⟩
      have:=hno.out (fun e=> by have:=HG1.out.2 e;cases this)
      constructor
      ·intro h;cases h
      ·intro h
       exact absurd (congrArg Wk.tables h) this
     | true=>
      repeat (first | (refine srE ?_;simp only [Act.put,sA,sB,sC]) | (refine skE ?_;simp only [Act.put,sA,sB,sC]))
      refine sdone ?_
      go_wp2_with fail
      go_roundw
      case rel=> exact ⟨k+1,by omega,by go_num,Lib.hid (hst.out (HG1.out.1 (by trivial))),D5⟩
      case measure=> simp [intOf];omega
    ·obtain rfl:k=n:=by omega
     have hall:t.tables=u.tables:=by
      have:=H.out
      rwa [List.take_of_length_le (by rw [HN.out];exact Nat.le_refl _),List.take_of_length_le (by rw [HN2.out];exact Nat.le_refl _)]at this
     have HALL:=Lib.hid hall
     clear hall H
     replace X1:=Lib.hid (box_next X1.out hb.out)
     replace X2:=Lib.hid (box_next X2.out hb.out)
     obtain ⟨w3,hw3⟩: ∃w3,w3=wr:=⟨_,rfl⟩
     rw [← hw3]at X1 X2 hb⊢
     clear hw3
     have D3:=Lib.hid (D0.trans (hb.out.mono hzd))
     clear hb
     obtain ⟨u0,u1⟩:=box2 X1.out
     go_wp2_with fail
     clear u0 u1
     go_loopw [6,50] (fun _ i wr=> ∃k:Nat,k≤m∧i= .int .i64 k∧Hid (t.procs.take k=u.procs.take k)∧Hid (Below w3.heap.size w3 wr)) (fun _ i _=> m - (intOf i).toNat)
     case atStart=> exact ⟨0,by omega,rfl,Lib.hid (by simp),Lib.hid (Below.refl _ _)⟩
     case round=>
      obtain ⟨k,hk,rfl,H,hb⟩:=hrel
      generalize wr=wo at *
      have hz3:=D3.out.size
      have hzr:=hb.out.size
      have DR:=Lib.hid (D3.out.trans (hb.out.mono hz3))
      by_cases hlt:k < m
      ·have hlt':k < t.procs.length:=by rw [HM.out];exact hlt
       have hlt2:k < u.procs.length:=by rw [HM2.out];exact hlt
       have hki:(k:Int) < (m:Int):=by omega
       obtain ⟨b1,off1,A1,c1,B1,d1,p1,q1,r1,⟨rfl,hb1⟩,⟨rc1,rs1⟩,hc1⟩:=(P1.out.keep (w':=wo) fun b hB=> DR.out.block b (HS.out b hB)).at_ HS.out hlt'
       obtain ⟨b2,off2,A2,c2,B2,d2,p2,q2,r2,⟨rfl,hb2⟩,⟨rc2,rs2⟩,hc2⟩:=(P2.out.keep (w':=wo) fun b hB=> DR.out.block b (HS'.out b hB)).at_ HS'.out hlt2
       have hst:=Lib.hid (take_same hlt' hlt2 H.out)
       have hno:=Lib.hid (ne_at hlt' hlt2)
       have RC1:=Lib.hid rc1
       have RC2:=Lib.hid rc2
       have RS1:=Lib.hid rs1
       have RS2:=Lib.hid rs2
       clear rc1 rc2 rs1 rs2 H
       generalize t.procs[k]=x at *
       generalize u.procs[k]=y at *
       obtain ⟨xn,xp,xb⟩:=x
       obtain ⟨yn,yp,yb⟩:=y
       have HNO:Hid (¬(xn=yn∧xp=yp∧xb=yb)→t≠u):=Lib.hid fun h e=> hno.out (fun e=> h (by injection e with e1 e2 e3;exact ⟨e1,e2,e3⟩)) (by rw [e])
       have HYES:Hid (xn=yn∧xp=yp∧xb=yb→t.procs.take (k+1)=u.procs.take (k+1)):=Lib.hid fun h=> hst.out (by rw [h.1,h.2.1,h.2.2])
       clear hno hst
       dsimp only at hc1 hc2 RC1 RC2 RS1 RS2
       have kp1:=RC1.out.cap
       have kp2:=RC2.out.cap
       have x0:wo.cell? ⟨b1,off1+k * 6,none⟩=some (sv xn):=hc1 0 (by omega)
       have x1:wo.cell? ⟨b1,off1+k * 6+1,none⟩=some (.slice A1 xp.length c1):=hc1 1 (by omega)
       have x2:wo.cell? ⟨b1,off1+k * 6+2,none⟩=some (.slice B1 xb.len d1):=hc1 2 (by omega)
       have x3:wo.cell? ⟨b1,off1+k * 6+3,none⟩=some (nv p1):=hc1 3 (by omega)
       have x4:wo.cell? ⟨b1,off1+k * 6+4,none⟩=some (nv q1):=hc1 4 (by omega)
       have x5:wo.cell? ⟨b1,off1+k * 6+5,none⟩=some (nv r1):=hc1 5 (by omega)
       have y0:wo.cell? ⟨b2,off2+k * 6,none⟩=some (sv yn):=hc2 0 (by omega)
       have y1:wo.cell? ⟨b2,off2+k * 6+1,none⟩=some (.slice A2 yp.length c2):=hc2 1 (by omega)
       have y2:wo.cell? ⟨b2,off2+k * 6+2,none⟩=some (.slice B2 yb.len d2):=hc2 2 (by omega)
       have y3:wo.cell? ⟨b2,off2+k * 6+3,none⟩=some (nv p2):=hc2 3 (by omega)
       have y4:wo.cell? ⟨b2,off2+k * 6+4,none⟩=some (nv q2):=hc2 4 (by omega)
       have y5:wo.cell? ⟨b2,off2+k * 6+5,none⟩=some (nv r2):=hc2 5 (by omega)
       clear hc1 hc2
       have hbw1:b1 < wo.heap.size:=by omega
       have hbw2:b2 < wo.heap.size:=by omega
       obtain ⟨u0,u1⟩:=box2 (box_next X1.out hb.out)
       obtain ⟨z0,z1⟩:=box2 (box_next X2.out hb.out)
       have hwz:w.heap.size+1 < wo.heap.size:=(Array.getElem?_eq_some_iff.1 (box_next X2.out hb.out)).1
       have hwz0:w.heap.size < wo.heap.size:=by omega
       go_upto_region 14 with fail
       have D4:Below wo.heap.size wo ((wo.alloc (.cells #[sv xn,.slice A1 xp.length c1,.slice B1 xb.len d1,nv p1,nv q1,nv r1] 41)).alloc (.cells #[sv yn,.slice A2 yp.length c2,.slice B2 yb.len d2,nv p2,nv q2,nv r2] 41)):=by repeat (first | exact Below.refl _ _ | refine Below.alloc ?_ (by first | omega | (simp <;> omega)) _)
       obtain ⟨w4,hw4⟩: ∃W,(wo.alloc (.cells #[sv xn,.slice A1 xp.length c1,.slice B1 xb.len d1,nv p1,nv q1,nv r1] 41)).alloc (.cells #[sv yn,.slice A2 yp.length c2,.slice B2 yb.len d2,nv p2,nv q2,nv r2] 41)=W:=⟨_,rfl⟩
       have Y1:Hid (w4.heap[wo.heap.size]? =some (.cells #[sv xn,.slice A1 xp.length c1,.slice B1 xb.len d1,nv p1,nv q1,nv r1] 41 (0,0))):=Lib.hid (by rw [← hw4];exact alloc_old' (alloc_at rfl))
       have Y2:Hid (w4.heap[wo.heap.size+1]? =some (.cells #[sv yn,.slice A2 yp.length c2,.slice B2 yb.len d2,nv p2,nv q2,nv r2] 41 (0,0))):=Lib.hid (by rw [← hw4];exact alloc_at (by simp))
       rw [hw4]at D4⊢
       clear hw4 x0 x1 x2 x3 x4 x5 y0 y1 y2 y3 y4 y5 u0 u1 z0 z1
       have hz4:=D4.size
       have DW4:=Lib.hid (DR.out.trans (D4.mono DR.out.size))
       obtain ⟨⟨⟨x0,x1⟩,x2,x3⟩,x4,x5⟩:=box6 Y1.out
       obtain ⟨⟨⟨y0,y1⟩,y2,y3⟩,y4,y5⟩:=box6 Y2.out
       by_cases f0:xn=yn
       ·subst f0
        have s1:=fun w=> sneq_no xn w
        by_cases f1:xp.length=yp.length
        ·obtain ⟨np,hnp⟩: ∃z,xp.length=z:=⟨_,rfl⟩
         have hnp2:yp.length=np:=by omega
         have HNP:=Lib.hid hnp
         have HNP2:=Lib.hid hnp2
         rw [hnp]at x1 kp1 Y1
         rw [hnp2]at y1 kp2 Y2
         clear hnp hnp2 f1
         go_wp2_with fail
         refine (sameB_any xb yb B1 B2 d1 d2 S S' w4 (RS1.out.keep fun b hB=> D4.block b (by have:=HS.out b hB;omega)) (RS2.out.keep fun b hB=> D4.block b (by have:=HS'.out b hB;omega)) (fun b hB=> by have:=HS.out b hB;omega) (fun b hB=> by have:=HS'.out b hB;omega)).mono ?_
         rintro e w5 ⟨⟨g1,rfl,hg1⟩,b5⟩
         have HG1:=Lib.hid hg1
         clear hg1
         have DW5:=Lib.hid (DW4.out.trans (b5.mono DW4.out.size))
         have D45:=Lib.hid (bthen D4 b5)
         have hz5:=b5.size
         replace Y1:=Lib.hid (box_next Y1.out b5)
         replace Y2:=Lib.hid (box_next Y2.out b5)
         clear b5 x0 x1 x2 x3 x4 x5 y0 y1 y2 y3 y4 y5
         obtain ⟨⟨⟨x0,x1⟩,x2,x3⟩,x4,x5⟩:=box6 Y1.out
         obtain ⟨⟨⟨y0,y1⟩,y2,y3⟩,y4,y5⟩:=box6 Y2.out
         cases g1 with
         | false=>
          go_wp2_with fail
          go_ret
          refine ⟨⟨false,rfl,?_⟩,DW5.out⟩
          have:=HNO.out (fun h=> by have:=HG1.out.2 h.2.2;cases this)
          simp [this]
         | true=>
          have hbody:xb=yb:=HG1.out.1 (by trivial)
          have HBD:=Lib.hid hbody
          clear hbody
          go_wp2_with fail
          clear x0 x1 x2 x3 x4 x5 y0 y1 y2 y3 y4 y5
          have RC1':Hid (RC w5 S A1 c1 xp):=Lib.hid (RC1.out.keep fun b hB=> D45.out.block b (by have:=HS.out b hB;omega))
          have RC2':Hid (RC w5 S' A2 c2 yp):=Lib.hid (RC2.out.keep fun b hB=> D45.out.block b (by have:=HS'.out b hB;omega))
          go_loopw [6,99] (fun _ i wr=> ∃j:Nat,j≤np∧i= .int .i64 j∧Hid (xp.take j=yp.take j)∧Hid (Below w5.heap.size w5 wr)) (fun _ i _=> np - (intOf i).toNat)
          case atStart=> exact ⟨0,by omega,rfl,Lib.hid (by simp),Lib.hid (Below.refl _ _)⟩
          case round=>
           obtain ⟨j,hj,rfl,HJ,hbj⟩:=hrel
           by_cases hjlt:j < np
           ·have hj1:j < xp.length:=by rw [HNP.out];exact hjlt
            have hj2:j < yp.length:=by rw [HNP2.out];exact hjlt
            have hji:(j:Int) < (np:Int):=by omega
            obtain ⟨b3,off3,⟨rfl,hb3⟩,hc3⟩:=RC1'.out.at_ HS.out hj1
            obtain ⟨b4,off4,⟨rfl,hb4⟩,hc4⟩:=RC2'.out.at_ HS'.out hj2
            have hst:=Lib.hid (take_same hj1 hj2 HJ.out)
            have hno:=Lib.hid (ne_at hj1 hj2)
            generalize xp[j]=e1 at *
            generalize yp[j]=e2 at *
            have HC3:=Lib.hid hc3
            have HC4:=Lib.hid hc4
            clear hc3 hc4 HJ
            have Y1r:=Lib.hid (box_next Y1.out hbj.out)
            have Y2r:=Lib.hid (box_next Y2.out hbj.out)
            have hzj:=hbj.out.size
            have hK:Hid (∀W,Below wr.heap.size wr.drew W→∀b,b < w5.heap.size→W.heap[b]? =w5.heap[b]?):=Lib.hid fun W hW b hlt=> (hW.block b (by omega)).trans (hbj.out.block b hlt)
            have hw5:w.heap.size≤w5.heap.size:=by omega
            by_cases f3:e1=e2
            ·subst f3
             have s3:=fun w=> cneq_no e1 w
             go_wp2_with fail
             refine wp_region_sched [(0,true),(1,true),(2,true),(3,true),(4,true),(5,true),(6,true),(7,true),(8,true),(9,true),(10,true)] (by kernel_rfl) (by kernel_rfl) (fun _ _ d _ _ h=> by cases d <;> exact h) ?_
             refine swith (fun W hW=> (box6 (box_next Y1r.out ((Below.refl _ _).drew.trans hW.out)))) (fun q1=> ?_)
             refine swith (fun W hW=> (box6 (box_next Y2r.out ((Below.refl _ _).drew.trans hW.out)))) (fun q2=> ?_)
             refine swith (fun W hW=> (HC3.out W (fun b hB=> hK.out W hW.out b (by have:=HS.out b hB;omega)))) (fun q3=> ?_)
             refine swith (fun W hW=> (HC4.out W (fun b hB=> hK.out W hW.out b (by have:=HS'.out b hB;omega)))) (fun q4=> ?_)
             repeat (first | (refine srE ?_;simp only [Act.put,sA,sB,sC]) | (refine skE ?_;simp only [Act.put,sA,sB,sC]))
             refine sdone ?_
             go_wp2_with fail
             go_roundw
             case rel=> exact ⟨j+1,by omega,by go_num,Lib.hid (hst.out (by trivial)),Lib.hid hbj.out.drew⟩
             case measure=> simp [intOf];omega
            ·have s3:=fun w=> cneq_yes f3 w
             go_wp2_with fail
             refine wp_region_sched [(0,true),(1,true),(2,true),(3,true),(4,true),(5,true),(6,true),(7,true),(8,true),(9,true),(10,true)] (by kernel_rfl) (by kernel_rfl) (fun _ _ d _ _ h=> by cases d <;> exact h) ?_
             refine swith (fun W hW=> (box6 (box_next Y1r.out ((Below.refl _ _).drew.trans hW.out)))) (fun q1=> ?_)
             refine swith (fun W hW=> (box6 (box_next Y2r.out ((Below.refl _ _).drew.trans hW.out)))) (fun q2=> ?_)
             refine swith (fun W hW=> (HC3.out W (fun b hB=> hK.out W hW.out b (by have:=HS.out b hB;omega)))) (fun q3=> ?_)
             refine swith (fun W hW=> (HC4.out W (fun b hB=> hK.out W hW.out b (by have:=HS'.out b hB;omega)))) (fun q4=> ?_)
             repeat (first | (refine srE ?_;simp only [Act.put,sA,sB,sC]) | (refine skE ?_;simp only [Act.put,sA,sB,sC]))
             refine sdone ?_
             go_wp2_with fail
             go_ret
             refine ⟨⟨false,rfl,?_⟩,DW5.out.trans (hbj.out.drew.mono DW5.out.size)⟩
             have:=HNO.out (fun h=> hno.out f3 h.2.1)
             simp [this]
           ·obtain rfl:j=np:=by omega
            have hpar:xp=yp:=by
             have:=HJ.out
             rwa [List.take_of_length_le (by rw [HNP.out];exact Nat.le_refl _),List.take_of_length_le (by rw [HNP2.out];exact Nat.le_refl _)]at this
            have hyes:=HYES.out ⟨trivial,hpar,HBD.out⟩
            have HY:=Lib.hid hyes
            have HBn:=Lib.hid (bthen hb.out (D45.out.trans (hbj.out.mono D45.out.size)))
            clear hpar hyes
            go_wp2_with fail
            go_roundw
            case rel=> exact ⟨k+1,by omega,by go_num,HY,HBn⟩
            case measure=> simp [intOf];omega
        ·have d2:((xp.length:Int) !=(yp.length:Int))=true:=by simp;omega
         have hne:=HNO.out (fun h=> f1 (by rw [h.2.1]))
         have HNE:=Lib.hid hne
         clear hne
         go_wp2_with fail
         go_ret
         exact ⟨⟨false,rfl,by simp [HNE.out]⟩,DW4.out⟩
       ·have s1:=fun w=> sneq_yes f0 w
        have hne:=HNO.out (fun h=> f0 h.1)
        have HNE:=Lib.hid hne
        clear hne
        go_wp2_with fail
        go_ret
        exact ⟨⟨false,rfl,by simp [HNE.out]⟩,DW4.out⟩
      ·obtain rfl:k=m:=by omega
       have hpr:t.procs=u.procs:=by
        have:=H.out
        rwa [List.take_of_length_le (by rw [HM.out];exact Nat.le_refl _),List.take_of_length_le (by rw [HM2.out];exact Nat.le_refl _)]at this
       have heq:=HWX.out.2 ⟨HALL.out,hpr⟩
       have HEQ:=Lib.hid heq
       clear heq hpr
       go_wp2_with fail
       go_ret
       exact ⟨⟨true,rfl,by simp [HEQ.out]⟩,DR.out⟩
  ·have d1:((t.procs.length:Int) !=(u.procs.length:Int))=true:=by simp;omega
   have hne:t≠u:=fun e=> e1 (by rw [e])
   have HNE:=Lib.hid hne
   clear hne
   rw [e0]at D0⊢
   go_enter Tryz.func9,Tryz.ntmps9
   go_wp2_with fail
   go_ret
   exact ⟨⟨false,rfl,by simp [HNE.out]⟩,D0⟩
 ·have d1:((t.tables.length:Int) !=(u.tables.length:Int))=true:=by simp;omega
  have hne:t≠u:=fun e=> e0 (by rw [e])
  have HNE:=Lib.hid hne
  clear hne
  go_enter Tryz.func9,Tryz.ntmps9
  go_wp2_with fail
  go_ret
  exact ⟨⟨false,rfl,by simp [HNE.out]⟩,D0⟩
end Go.Proofs.YtnbmpfdffoidaaaGreatDoor.Y
namespace Go.Proofs.YtnbmpfdffoidaaaGreatDoor.Y
open Go.RowKit O V S X
theorem own_lit3 (w:World){base e b:Nat}(hb:b=w.heap.size)(hB:base≤b):(w.alloc (.cells #[] e)).ownsRow base e 3 (.slice (some ⟨b,0,none⟩) 0 0) 0 []:=by
 subst hb
 exact ⟨rfl,.inr ⟨_,0,#[],rfl,hB,alloc_at rfl,by omega,by unfold maxLen;omega,by simp,by simp⟩⟩
theorem cloneC_any (l:List Cl)(hl:l.length≤100)(A:Option Addr)(c:Nat)(S:Nat→Prop)(w:World)(h:RC w S A c l)(hS: ∀b,S b→b < w.heap.size):
  Calls Tryz.prog 32 #[.slice A l.length c] w fun e w'=> (∃A' c' S',e= .returned (.slice A' l.length c')∧RC w' S' A' c' l∧In w.heap.size w' S')∧Below w.heap.size w w':=by
 obtain ⟨es,h1,h2⟩:=h
 have q22: ∀(w:World) (a:Option Addr) (n c n' c':Nat),(binOp .eql 38 (.slice a n c) (.slice none n' c')).run Tryz.prog w= .ok (.bool a.isNone) w:=fun w a n c n' c'=> Lib.run_eql_slice_nil w _ _ a n c n' c' Tryz.underlying38
 have hone: ∀u ∈ es,u.oneCell'=true:=by
  clear h1
  induction l generalizing es with
  | nil=>
   obtain rfl:es=[]:=h2
   simp
  | cons x l ih=>
   obtain ⟨vs,ys,rfl,rfl,h3⟩:=h2
   intro u hu
   simp only [List.mem_append,List.mem_cons,List.not_mem_nil,or_false]at hu
   rcases hu with (rfl | rfl | rfl) | hu
   ·rfl
   ·rfl
   ·rfl
   ·exact ih (by simp at hl;omega) ys h3 u hu
 have H2:=Lib.hid h2
 have HO:=Lib.hid hone
 have HR:=Lib.hid (h1.rd hS)
 cases A with
 | none=>
  have h0:l=[]:=by
   cases l with
   | nil=> rfl
   | cons x l=>
    obtain ⟨b,off,e,_⟩:=h1.pos (by have:=h1.len;simp at this;omega)
    cases e
  subst h0
  clear h1 h2 hone
  go_enter Tryz.func32,Tryz.ntmps32
  go_wp2_with fail
  go_ret
  exact ⟨⟨none,0,fun _=> False,rfl,⟨[],Row.nil_,rfl⟩,fun _ h=> h.elim⟩,Below.refl _ _⟩
 | some q=>
  obtain ⟨n,hn⟩: ∃n,l.length=n:=⟨_,rfl⟩
  have HN:=Lib.hid hn
  rw [hn]at hl HR
  rw [hn]
  clear h1 h2 hone hn
  go_enter Tryz.func32,Tryz.ntmps32
  go_wp2_with (at_builtin;refine wpList_app rfl (.tmp 5) (.tmp 6) cl_E rfl w.heap.size [] rfl (own_lit3 w rfl (Nat.le_refl _)) rfl es (HR.out.alloc (Nat.le_refl _) _) HO.out (by unfold maxLen;omega) (by omega) (by simp) ?_;intro A5 c5 w5 hown hg _)
  go_ret
  rw [Nat.zero_add]at hown
  exact ⟨⟨A5,c5,fun b=> (Value.slice A5 n c5).ownBlock=some b,rfl,⟨es,by rw [HN.out];simpa using Row.of_own hown (fun _ h=> h),H2.out⟩,fun b hb=> hown.lt b hb⟩,below_app ((Below.refl _ _).alloc (Nat.le_refl _) _) (own_lit3 w rfl (Nat.le_refl _)) hg (by simp)⟩
def PcZ (w:World)(S:Nat→Prop)(x:Pc)(vs:List Value):Prop:= ∃A c B d,vs=[sv x.name,.slice A x.params.length c,.slice B x.body.len d,nv 0,nv 0,nv 0]∧RC w S A c x.params∧BZ w S B d x.body
theorem PcZ.r {w:World}{S:Nat→Prop}{x:Pc}{vs:List Value}(h:PcZ w S x vs):PcR w S x vs:=by
 obtain ⟨A,c,B,d,rfl,⟨es,h1,h2⟩,h3⟩:=h
 obtain ⟨bs,h4,h5⟩:=h3.rs
 exact ⟨A,c,es,B,d,bs,0,0,0,rfl,⟨h1,h2⟩,h4,h5⟩
theorem RC.mono {w:World}{S S':Nat→Prop}{A:Option Addr}{c:Nat}{l:List Cl}(h:RC w S A c l)(hk: ∀b,S b→S' b):RC w S' A c l:=by
 obtain ⟨es,h1,h2⟩:=h
 exact ⟨es,h1.mono hk,h2⟩
theorem pcz_keep (w w':World)(S:Nat→Prop)(a:Pc)(vs:List Value)(h: ∀b,S b→w'.heap[b]? =w.heap[b]?):PcZ w S a vs→PcZ w' S a vs
 | ⟨A,c,B,d,e,h1,h2⟩=> ⟨A,c,B,d,e,h1.keep h,h2.keep h⟩
theorem pcz_mono (w:World)(S S':Nat→Prop)(a:Pc)(vs:List Value)(h: ∀b,S b→S' b):PcZ w S a vs→PcZ w S' a vs
 | ⟨A,c,B,d,e,h1,h2⟩=> ⟨A,c,B,d,e,h1.mono h,h2.mono h⟩
def WkZ (w:World)(S:Nat→Prop)(ta:List Tb)(pa:List Pc)(A:Option Addr)(c:Nat)(B:Option Addr)(d:Nat):Prop:=RT w S A c ta∧∃fs,Row w S 6 B pa.length d fs∧Reps (PcZ w S) pa fs
def BeB (w:World)(a b c d:Value)(W:World):Prop:=Below w.heap.size w W∧W.heap[w.heap.size]? =some (wkX a b)∧W.heap[w.heap.size+1]? =some (wkX c d)
theorem BeB.keep {w W W':World}{a b c d:Value}(h:BeB w a b c d W){bs:List Nat}(m:Mod bs W W')(hb: ∀x ∈ bs,w.heap.size+2≤x):BeB w a b c d W':=
 ⟨h.1.trans (m.below (B:=w.heap.size) h.1.size (fun x hx=> by have:=hb x hx;omega)),m.box h.2.1 (fun hx=> by have:=hb _ hx;omega),m.box h.2.2 (fun hx=> by have:=hb _ hx;omega)⟩
theorem BeB.lt {w W:World}{a b c d:Value}(h:BeB w a b c d W):w.heap.size+2≤W.heap.size:=(Array.getElem?_eq_some_iff.1 h.2.2).1
theorem bareW_any (tl:List Tb)(pl:List Pc)(ht8:tl.length≤8∧∀t ∈ tl,okT t)(hp8:pl.length≤8∧∀t ∈ pl,okPw t)(TA:Option Addr)(tc:Nat)(PA:Option Addr)(pc:Nat)(S:Nat→Prop)(w:World)(hT:RT w S TA tc tl)(hP:RP w S PA pc pl)(hS: ∀b,S b→b < w.heap.size):
  Calls Tryz.prog 11 #[.agg #[.slice TA tl.length tc,.slice PA pl.length pc]] w fun e w'=> (∃A c B d S',e= .returned (.agg #[.slice A tl.length c,.slice B pl.length d])∧WkZ w' S' tl pl A c B d∧In w.heap.size w' S')∧Below w.heap.size w w':=by
 have HT8:=Lib.hid ht8
 have HP8:=Lib.hid hp8
 have HT:=Lib.hid hT
 have HP:=Lib.hid hP
 have HS:=Lib.hid hS
 obtain ⟨tn,htn⟩: ∃n,tl.length=n:=⟨_,rfl⟩
 obtain ⟨pn,hpn⟩: ∃n,pl.length=n:=⟨_,rfl⟩
 have htn8:=ht8.1
 have hpn8:=hp8.1
 rw [htn]at htn8
 rw [hpn]at hpn8
 rw [htn,hpn]
 have HTN:=Lib.hid htn
 have HPN:=Lib.hid hpn
 clear ht8 hp8 hT hP hS htn hpn
 go_enter Tryz.func11,Tryz.ntmps11
 go_upto_region 1 with fail
 obtain ⟨w1,hw⟩: ∃W,(w.alloc (.cells #[.slice TA tn tc,.slice PA pn pc] 25)).alloc (.cells #[.slice none 0 0,.slice none 0 0] 25)=W:=⟨_,rfl⟩
 have B1:Hid (BeB w (.slice TA tn tc) (.slice PA pn pc) (.slice none 0 0) (.slice none 0 0) w1):=Lib.hid (by rw [← hw];exact ⟨((Below.refl _ _).alloc (Nat.le_refl _) _).alloc (by simp) _,alloc_old' (alloc_at rfl),alloc_at (by simp)⟩)
 rw [hw]
 clear hw
 obtain ⟨y0,y1⟩:=box2 B1.out.2.1
 go_wp2_with fail
 clear y0 y1
 go_loopw [10] (fun i wr=> ∃(k:Nat) (A:Option Addr) (c:Nat) (xs:List Value),i= .int .i64 k∧k≤tn∧Hid (BeB w (.slice TA tn tc) (.slice PA pn pc) (.slice A k c) (.slice none 0 0) wr)∧Hid (Ar TbR 66 3 True wr (w.heap.size+2) A k c (tl.take k) xs)) (fun i _=> tn - (intOf i).toNat)
 case atStart=> exact ⟨0,none,0,[],rfl,by omega,B1,Lib.hid (by simpa using Ar.nil_ _ _)⟩
 case round=>
  clear B1
  obtain ⟨k,A,c,xs,rfl,hk,HB,HA⟩:=hrel
  have hz:=HB.out.lt
  by_cases hlt:k < tn
  ·have hlt':k < tl.length:=by rw [HTN.out];exact hlt
   have hki:(k:Int) < (tn:Int):=by omega
   obtain ⟨b1,off1,A1,c1,⟨rfl,hb1⟩,rc,hc⟩:=(HT.out.keep (w':=wr) fun b hB=> HB.out.1.block b (HS.out b hB)).at_ HS.out hlt'
   have hx:=Lib.hid (HT8.out.2 _ (List.getElem_mem hlt')).c.1
   have HTk:=Lib.hid (show tl.take (k+1)=tl.take k ++ [tl[k]] by simp)
   have hbw1:b1 < wr.heap.size:=by omega
   generalize tl[k]=x at *
   have RCx:=Lib.hid rc
   obtain ⟨⟨x0,x1⟩,x2⟩:=hc wr (fun _ _=> rfl)
   clear hc rc
   go_wp2_with fail
   clear x0 x1 x2
   obtain ⟨w3,hw⟩: ∃W,wr.alloc (tbO x.name x.rows (.slice A1 x.cols.length c1))=W:=⟨_,rfl⟩
   have K3:Below wr.heap.size wr w3:=by rw [← hw];exact one_new
   have X3:w3.heap[wr.heap.size]? =some (tbB x.name x.rows (.slice A1 x.cols.length c1)):=by rw [← hw];exact alloc_at rfl
   rw [hw]
   clear hw
   have hz3:wr.heap.size < w3.heap.size:=(Array.getElem?_eq_some_iff.1 X3).1
   refine (cloneC_any x.cols (by have:=hx.out;omega) A1 c1 S w3 (RCx.out.keep fun b hb=> K3.block b (by have:=HS.out b hb;omega)) (fun b hb=> by have:=HS.out b hb;omega)).mono ?_
   rintro e w4 ⟨⟨A4,c4,S4,rfl,g4,i4⟩,b4⟩
   have X4:=Lib.hid (box_next X3 b4)
   have K4:=Lib.hid (bthen K3 b4)
   have hz4:=b4.size
   have G4:=Lib.hid (And.intro g4 i4)
   clear b4 K3 X3 g4 i4
   obtain ⟨⟨z0,z1⟩,z2⟩:=cells3q X4.out
   obtain ⟨⟨v0,v1⟩,v2⟩:=frozen3p X4.out
   go_upto_region 5 with fail
   clear z0 z1 z2 v0 v1 v2
   have X5:Hid (_=some (tbB x.name x.rows (.slice A4 x.cols.length c4))):=Lib.hid (heap_set' X4.out (.slice A4 x.cols.length c4) 2 rfl)
   have M5:Hid (Mod [wr.heap.size] w4 _):=Lib.hid ((Mod.refl _ _).set (b:=wr.heap.size) (i:=2) (.inl (by simp)) (.slice A4 x.cols.length c4))
   obtain ⟨w5,hw⟩: ∃W,w4.setCell ⟨wr.heap.size,2,none⟩ (.slice A4 x.cols.length c4)=W:=⟨_,rfl⟩
   rw [hw]at X5 M5
   rw [hw]
   clear hw X4
   have hz5:=M5.out.size
   have KW:Mod [] wr w5:=(Mod.of_below K4.out).trans M5.out (fun j hj=> .inr (by simp at hj;omega))
   have B5:=Lib.hid (HB.out.keep KW (fun _ h=> by cases h))
   have ha:(List.take k tl).length=k:=by rw [List.length_take];have:=HTN.out;omega
   have Ka:Hid (Mod [] wr (w5.alloc (tbO x.name x.rows (.slice A4 x.cols.length c4)))):=Lib.hid (KW.alloc _)
   have Aa:=Lib.hid (HA.out.mod tbF_keep Ka.out (fun _ h=> by cases h))
   have Ba:=Lib.hid (HB.out.keep Ka.out (fun _ h=> by cases h))
   have hown:=fun b h=> (HA.out.own.lt b h).2
   have hn7:some (w.heap.size+1)≠(Value.slice A k c).ownBlock:=fun e=> by have:=(HA.out.own.lt _ e.symm).1;omega
   have hn8:some w.heap.size≠(Value.slice A k c).ownBlock:=fun e=> by have:=(HA.out.own.lt _ e.symm).1;omega
   obtain ⟨y0,y1⟩:=box2 B5.out.2.2
   obtain ⟨⟨z0,z1⟩,z2⟩:=cells3q X5.out
   clear KW HB
   go_wp2_with (at_builtin;refine wpList_app rfl (.tmp 19) (.tmp 21) tb_E rfl (w.heap.size+2) xs rfl Aa.out.own rfl [sv x.name,nv x.rows,.slice A4 x.cols.length c4] (Rd.made _ [sv x.name,nv x.rows,.slice A4 x.cols.length c4] rfl rfl) (by simp [Value.oneCell']) (by unfold maxLen;omega) (by omega) (by simp;omega) ?_;intro A7 c7 w7 o7 g7 h7;have x7:=(g7.block (w.heap.size+1) (by simp;omega) hn7).trans Ba.out.2.2;have y7:=(box2 x7).1;have f7:=Lib.frozen_of_heap x7 0)
   clear y0 y1 z0 z1 z2 y7 f7
   have mF:Mod [w.heap.size+1] w7 (w7.setCell ⟨w.heap.size+1,0,none⟩ (.slice A7 (k+1) c7)):=(Mod.refl _ _).set (.inl (by simp)) _
   have oF:=own_mod o7 mF (fun j hj=> by have:=(o7.lt j hj).1;simp;omega)
   have AF:Hid (Ar TbR 66 3 True _ (w.heap.size+2) A7 (k+1) c7 (tl.take (k+1)) _):=Lib.hid (by
    rw [HTk.out]
    refine Aa.out.put (G':=True) (y:=x) (bs:=[w.heap.size+1]) (lo1:=wr.heap.size) tbF_keep tbF_mono id hz hown (fun _=> ?_) g7 h7 oF mF (fun j hj=> .inl (by simp at hj;omega))
    obtain ⟨es,a1,a2⟩:=G4.out.1.keep (w':=w5.alloc (tbO x.name x.rows (.slice A4 x.cols.length c4))) (fun b hb=> (Below.heap_alloc _ _ _ (by have:=(G4.out.2 b hb).2;omega)).trans (M5.out.block b (G4.out.2 b hb).2 (by have:=(G4.out.2 b hb).1;simp;omega)))
    exact ⟨S4,⟨A4,c4,es,rfl,a1,a2⟩,fun b hb=> ⟨by have:=(G4.out.2 b hb).1;omega,by have:=(G4.out.2 b hb).2;simp;omega⟩⟩)
   have BF:Hid (BeB w _ _ (.slice A7 (k+1) c7) (.slice none 0 0) (w7.setCell ⟨w.heap.size+1,0,none⟩ (.slice A7 (k+1) c7))):=Lib.hid
    ⟨(Ba.out.1.grown g7 (by simp;omega) (fun j hj=> by have:=(HA.out.own.lt j hj).1;omega)).trans (mF.below (B:=w.heap.size) (by have:=g7.size;simp at this;omega) (by simp)),(Below.heap_setCell _ _ _ _ (by simp)).trans ((g7.block _ (by simp;omega) hn8).trans Ba.out.2.1),heap_set' x7 _ 0 rfl⟩
   exact ⟨⟨k+1,A7,c7,_,by go_num,by omega,BF,AF⟩,by simp [intOf];omega⟩
  ·obtain rfl:k=tn:=by omega
   obtain ⟨y0,y1⟩:=box2 HB.out.2.1
   go_wp2_with fail
   clear y0 y1
   obtain ⟨w7,hw7⟩: ∃x,x=wr:=⟨_,rfl⟩
   subst hw7
   obtain ⟨TB,hTB⟩: ∃x,x=A:=⟨_,rfl⟩
   obtain ⟨td,htd⟩: ∃x,x=c:=⟨_,rfl⟩
   obtain ⟨tx,htx⟩: ∃x,x=xs:=⟨_,rfl⟩
   obtain ⟨tn,htn⟩: ∃x,x=k:=⟨_,rfl⟩
   subst hTB htd htx htn
   have HT2:=HA
   clear HA
   go_loopw [28] (fun i wr=> ∃(k:Nat) (A:Option Addr) (c:Nat) (xs:List Value),i= .int .i64 k∧k≤pn∧Hid (Mod [w.heap.size+1] w7 wr)∧Hid (BeB w (.slice TA tn tc) (.slice PA pn pc) (.slice TB tn td) (.slice A k c) wr)∧Hid (Ar PcZ 41 6 True wr w7.heap.size A k c (pl.take k) xs)) (fun i _=> pn - (intOf i).toNat)
   case atStart=> exact ⟨0,none,0,[],rfl,by omega,Lib.hid (Mod.refl _ _),HB,Lib.hid (by simpa using Ar.nil_ _ _)⟩
   case round=>
    clear HB
    obtain ⟨k,A,c,xs,rfl,hk,HM,HB,HA⟩:=hrel
    have hz7:=HM.out.size
    by_cases hlt:k < pn
    ·have hlt':k < pl.length:=by rw [HPN.out];exact hlt
     have hki:(k:Int) < (pn:Int):=by omega
     obtain ⟨b1,off1,A1,c1,B1,d1,p1,q1,r1,⟨rfl,hb1⟩,⟨rc,rs⟩,hc⟩:=(HP.out.keep (w':=wr) fun b hB=> HB.out.1.block b (HS.out b hB)).at_ HS.out hlt'
     have hx:=Lib.hid (HP8.out.2 _ (List.getElem_mem hlt'))
     have HTk:=Lib.hid (show pl.take (k+1)=pl.take k ++ [pl[k]] by simp)
     have hbw1:b1 < wr.heap.size:=by omega
     generalize pl[k]=x at *
     have RCx:=Lib.hid rc
     have RSx:=Lib.hid rs
     have x0:wr.cell? ⟨b1,off1+k * 6,none⟩=some (sv x.name):=hc 0 (by omega)
     have x1:wr.cell? ⟨b1,off1+k * 6+1,none⟩=some (.slice A1 x.params.length c1):=hc 1 (by omega)
     have x2:wr.cell? ⟨b1,off1+k * 6+2,none⟩=some (.slice B1 x.body.len d1):=hc 2 (by omega)
     have x3:wr.cell? ⟨b1,off1+k * 6+3,none⟩=some (nv p1):=hc 3 (by omega)
     have x4:wr.cell? ⟨b1,off1+k * 6+4,none⟩=some (nv q1):=hc 4 (by omega)
     have x5:wr.cell? ⟨b1,off1+k * 6+5,none⟩=some (nv r1):=hc 5 (by omega)
     clear hc rc rs
     go_upto_region 10 with fail
     clear x0 x1 x2 x3 x4 x5
     obtain ⟨wd,hw⟩: ∃W,(wr.alloc (pcO x.name (.slice A1 x.params.length c1) (.slice B1 x.body.len d1) p1 q1 r1)).drew=W:=⟨_,rfl⟩
     have K3:Hid (Below wr.heap.size wr wd):=Lib.hid (by rw [← hw];exact one_new.drew)
     have X3:Hid (wd.heap[wr.heap.size]? =some (pcX x.name (.slice A1 x.params.length c1) (.slice B1 x.body.len d1) p1 q1 r1)):=Lib.hid (by rw [← hw];exact alloc_at rfl)
     refine wp_region_Z [8,10,12] [wr.heap.size] (.read 0 (.read 1 (.read 2 (.read 4 (.read 5 (.read 7 (.call 3 (.call 6 (.store 8 (.pure 9 (.store 10 (.pure 11 (.store 12 .done))))))))))))) (by kernel_rfl) (by kernel_rfl) (fun _ _ d _ _ h=> by cases d <;> exact h) ?_
     first | rw [hw] | (simp only [nv,sv]at hw;rw [hw])
     clear hw
     refine zwith (fun W hW=> cells6F ((hW wr.heap.size (by simp)).trans X3.out)) (fun qx=> ?_)
     repeat (refine zrE ?_;simp only [Act.put,sA,sB,sC])
     clear qx
     have hz3:wr.heap.size < wd.heap.size:=(Array.getElem?_eq_some_iff.1 X3.out).1
     refine zcall rfl rfl (fun K hK=> ?_)
     go_simp
     refine (cloneC_any x.params (by have:=hx.out.c.1;omega) A1 c1 S wd (RCx.out.keep fun b hb=> K3.out.block b (by have:=HS.out b hb;have:=HB.out.lt;omega)) (fun b hb=> by have:=HS.out b hb;have:=HB.out.lt;omega)).mono ?_;rintro e w4 ⟨⟨A4,c4,S4,rfl,r4,i4⟩,b4⟩
     go_wp2_with fail
     refine hK.out _ _ (fun b' hb=> by simp at hb;rw [hb];exact b4.block _ hz3) ?_
     clear hK K
     try simp only [Act.put,sA,sB,sC]
     have hz4:=b4.size
     have H4:=Lib.hid (And.intro r4 i4)
     have K4:=Lib.hid (bthen K3.out b4)
     replace X3:=Lib.hid (box_next X3.out b4)
     clear r4 i4 b4 K3
     refine zcall rfl rfl (fun K hK=> ?_)
     go_simp
     refine (bareB_any x.body hx.out.b.1.1 hx.out.b.1.2 B1 d1 S w4 (RSx.out.keep fun b hb=> K4.out.block b (by have:=HS.out b hb;have:=HB.out.lt;omega)) (fun b hb=> by have:=HS.out b hb;have:=HB.out.lt;omega)).mono ?_;rintro e w5 ⟨⟨B4,d4,S5,rfl,r5,i5⟩,b5⟩
     go_wp2_with fail
     refine hK.out _ _ (fun b' hb=> by simp at hb;rw [hb];exact b5.block _ (by omega)) ?_
     clear hK K
     try simp only [Act.put,sA,sB,sC]
     have hz5:=b5.size
     have H5:=Lib.hid (And.intro r5 (i5.more (show wd.heap.size≤w4.heap.size by omega)))
     replace H4:=Lib.hid (And.intro (H4.out.1.keep fun b hb=> b5.block b (H4.out.2 b hb).2) (H4.out.2.next b5.size))
     have K5:=Lib.hid (bthen K4.out b5)
     replace X3:=Lib.hid (box_next X3.out b5)
     clear r5 i5 b5 K4
     have Y1:=heap_set' (heap_set' (heap_set' X3.out (nv 0) 3 rfl) (nv 0) 4 rfl) (nv 0) 5 rfl
     refine zstore _ rfl rfl rfl (run_stP (f:=3) (f1:=4) (f2:=5) X3.out rfl rfl rfl rfl rfl (by simp)) ?_
     repeat (refine zpE ?_;simp only [Act.put,sA,sB,sC])
     have Y2:=heap_set' Y1 (.slice A4 x.params.length c4) 1 rfl
     refine zstore _ rfl rfl rfl (run_stC (f:=1) (A:=A4) (n:=x.params.length) (c:=c4) Y1 rfl rfl rfl (by simp)) ?_
     repeat (refine zpE ?_;simp only [Act.put,sA,sB,sC])
     have Y3:=heap_set' Y2 (.slice B4 x.body.len d4) 2 rfl
     refine zstore _ rfl rfl rfl (run_stS (f:=2) (A:=B4) (n:=x.body.len) (c:=d4) Y2 rfl rfl rfl (by simp)) (zdone ?_)
     have X7:Hid (_=some (pcX x.name (.slice A4 x.params.length c4) (.slice B4 x.body.len d4) 0 0 0)):=Lib.hid Y3
     have M7:Hid (Mod [wr.heap.size] w5 _):=Lib.hid (((((Mod.refl _ _).set (b:=wr.heap.size) (i:=3) (.inl (by simp)) (nv 0)).set (b:=wr.heap.size) (i:=4) (.inl (by simp)) (nv 0)).set (b:=wr.heap.size) (i:=5) (.inl (by simp)) (nv 0)).set (b:=wr.heap.size) (i:=1) (.inl (by simp)) (.slice A4 x.params.length c4) |>.set (b:=wr.heap.size) (i:=2) (.inl (by simp)) (.slice B4 x.body.len d4))
     clear Y1 Y2 Y3 X3
     generalize hw:World.setCell _ ⟨wr.heap.size,2,none⟩ _=w6 at X7 M7⊢
     clear hw
     have hz6:=M7.out.size
     have KW:Mod [] wr w6:=(Mod.of_below K5.out).trans M7.out (fun j hj=> .inr (by simp at hj;omega))
     have ha:(List.take k pl).length=k:=by rw [List.length_take];have:=HPN.out;omega
     have Ka:Hid (Mod [] wr (w6.alloc (pcO x.name (.slice A4 x.params.length c4) (.slice B4 x.body.len d4) 0 0 0))):=Lib.hid (KW.alloc _)
     have B6:=Lib.hid (HB.out.keep KW (fun _ h=> by cases h))
     have Aa:=Lib.hid (HA.out.mod pcz_keep Ka.out (fun _ h=> by cases h))
     have Ba:=Lib.hid (HB.out.keep Ka.out (fun _ h=> by cases h))
     have hlt2:=HB.out.lt
     have h7w:=HT2.out.own
     have hown:=fun b h=> (HA.out.own.lt b h).2
     have hn7:some (w.heap.size+1)≠(Value.slice A k c).ownBlock:=fun e=> by have:=(HA.out.own.lt _ e.symm).1;omega
     have hn8:some w.heap.size≠(Value.slice A k c).ownBlock:=fun e=> by have:=(HA.out.own.lt _ e.symm).1;omega
     obtain ⟨y0,y1⟩:=box2 B6.out.2.2
     obtain ⟨⟨⟨z0,z1⟩,z2,z3⟩,z4,z5⟩:=cells6F X7.out
     clear KW h7w
     go_wp2_with (at_builtin;refine wpList_app rfl (.tmp 43) (.tmp 45) pc_E rfl w7.heap.size xs rfl Aa.out.own rfl [sv x.name,.slice A4 x.params.length c4,.slice B4 x.body.len d4,nv 0,nv 0,nv 0] (Rd.made _ [sv x.name,.slice A4 x.params.length c4,.slice B4 x.body.len d4,nv 0,nv 0,nv 0] rfl rfl) (by simp [Value.oneCell']) (by unfold maxLen;omega) (by omega) (by simp;omega) ?_;intro A7 c7 w8 o7 g7 h7;have x7:=(g7.block (w.heap.size+1) (by simp;omega) hn7).trans Ba.out.2.2;have y7:=(box2 x7).2;have f7:=Lib.frozen_of_heap x7 1)
     clear y0 y1 z0 z1 z2 z3 z4 z5 y7 f7
     have mF:Mod [w.heap.size+1] w8 (w8.setCell ⟨w.heap.size+1,1,none⟩ (.slice A7 (k+1) c7)):=(Mod.refl _ _).set (.inl (by simp)) _
     have oF:=own_mod o7 mF (fun j hj=> by have:=(o7.lt j hj).1;simp;omega)
     have AF:Hid (Ar PcZ 41 6 True _ w7.heap.size A7 (k+1) c7 (pl.take (k+1)) _):=Lib.hid (by
      rw [HTk.out]
      refine Aa.out.put (G':=True) (y:=x) (bs:=[w.heap.size+1]) (lo1:=wr.heap.size) pcz_keep pcz_mono id hz7 hown (fun _=> ?_) g7 h7 oF mF (fun j hj=> .inl (by simp at hj;omega))
      have hk: ∀(S:Nat→Prop),In wd.heap.size w5 S→∀b,S b→(w6.alloc (pcO x.name (.slice A4 x.params.length c4) (.slice B4 x.body.len d4) 0 0 0)).heap[b]? =w5.heap[b]? :=fun S hi b hb=> (Below.heap_alloc _ _ _ (by have:=(hi b hb).2;omega)).trans (M7.out.block b (hi b hb).2 (by have:=(hi b hb).1;simp;omega))
      refine ⟨fun b=> S4 b∨S5 b,⟨A4,c4,B4,d4,rfl,(H4.out.1.keep (hk _ H4.out.2)).mono fun _ h=> .inl h,(H5.out.1.keep (hk _ H5.out.2)).mono fun _ h=> .inr h⟩,fun b hb=> ?_⟩
      have:wd.heap.size≤b∧b < w5.heap.size:=hb.elim (H4.out.2 b) (H5.out.2 b)
      exact ⟨by omega,by simp;omega⟩)
     have hg8:=g7.size
     simp at hg8
     have BF:Hid (BeB w _ _ (.slice TB tn td) (.slice A7 (k+1) c7) (w8.setCell ⟨w.heap.size+1,1,none⟩ (.slice A7 (k+1) c7))):=Lib.hid
      ⟨(Ba.out.1.grown g7 (by simp;omega) (fun j hj=> by have:=(HA.out.own.lt j hj).1;omega)).trans (mF.below (B:=w.heap.size) (by omega) (by simp)),(Below.heap_setCell _ _ _ _ (by simp)).trans ((g7.block _ (by simp;omega) hn8).trans Ba.out.2.1),heap_set' x7 _ 1 rfl⟩
     have MF:Hid (Mod [w.heap.size+1] w7 (w8.setCell ⟨w.heap.size+1,1,none⟩ (.slice A7 (k+1) c7))):=Lib.hid
      (((HM.out.trans Ka.out (fun _ h=> by cases h)).grown g7 (fun j hj=> .inr (HA.out.own.lt j hj).1)).then mF)
     exact ⟨⟨k+1,A7,c7,_,by go_num,by omega,MF,BF,AF⟩,by simp [intOf];omega⟩
    ·obtain rfl:k=pn:=by omega
     obtain ⟨y0,y1⟩:=box2 HB.out.2.2
     have f0:=Lib.frozen_of_heap HB.out.2.2 0
     have f1:=Lib.frozen_of_heap HB.out.2.2 1
     go_wp2_with fail
     clear y0 y1 f0 f1
     obtain ⟨y0,y1⟩:=box2 (heap_set' (heap_set' HB.out.2.2 (.slice TB tn td) 0 rfl) (.slice A k c) 1 rfl)
     have mF:Mod [w.heap.size+1] wr ((wr.setCell ⟨w.heap.size+1,0,none⟩ (.slice TB tn td)).setCell ⟨w.heap.size+1,1,none⟩ (.slice A k c)):=((Mod.refl _ _).set (.inl (by simp)) _).set (.inl (by simp)) _
     refine bodyPost_ret (v:= .agg #[.slice TB tn td,.slice A k c]) (by simp [results,Tryz.results11,go_sem,y0,y1]) rfl ?_
     have hlt2:=HB.out.lt
     have hlT:=HT2.out
     have hA1:=HT2.out.mod tbF_keep (HM.out.then mF) (fun j hj=> by simp at hj;omega)
     have hA2:=HA.out.mod pcz_keep mF (fun j hj=> by simp at hj;omega)
     obtain ⟨S1,a1,a2⟩:=hA1.tr trivial
     obtain ⟨S2,a3,a4⟩:=hA2.tr trivial
     rw [List.take_of_length_le (by rw [HTN.out];exact Nat.le_refl _)]at a1
     rw [List.take_of_length_le (by rw [HPN.out];exact Nat.le_refl _)]at a3
     refine ⟨⟨TB,td,A,c,fun b=> (S1 b∨(Value.slice TB tn td).ownBlock=some b)∨S2 b∨(Value.slice A k c).ownBlock=some b,rfl,⟨⟨tx,by rw [HTN.out];exact Row.of_own hA1.own (fun _ h=> .inl (.inr h)),a1.imp fun y us=> tbF_mono _ _ _ y us fun _ h=> .inl (.inl h)⟩,xs,by rw [HPN.out];exact Row.of_own hA2.own (fun _ h=> .inr (.inr h)),a3.imp fun y us=> pcz_mono _ _ _ y us fun _ h=> .inr (.inl h)⟩,fun b hb=> ?_⟩,HB.out.1.trans (mF.below (B:=w.heap.size) (by omega) (by simp))⟩
     have hz7:=HM.out.size
     have hw7:w.heap.size≤w7.heap.size:=by omega
     rcases hb with (h | h) | h | h
     ·have:=a2 b h
      omega
     ·have:=hA1.own.lt b h
      omega
     ·have:=a4 b h
      omega
     ·have:=hA2.own.lt b h
      omega
end Go.Proofs.YtnbmpfdffoidaaaGreatDoor.Y
