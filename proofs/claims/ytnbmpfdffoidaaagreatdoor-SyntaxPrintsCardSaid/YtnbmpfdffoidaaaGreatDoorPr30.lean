/- Texts of the proof, joined: LvPar, LvLives. -/
import Derived.Test.YtnbmpfdffoidaaaGreatDoorPr08
import Derived.Test.YtnbmpfdffoidaaaGreatDoorPr29
import Derived.Recover
set_option linter.unusedVariables false
set_option linter.unusedSimpArgs false
set_option maxHeartbeats 8000000
set_option maxRecDepth 100000
namespace Go.Proofs.YtnbmpfdffoidaaaGreatDoor.Y
open Go.RowKit O V S X
theorem box_setY {w:World}{b:Nat}{o:Obj}(h:w.heap[b]? =some o)(b' i:Nat)(hne:b≠b')(v:Value):(w.setCell ⟨b',i,none⟩ v).heap[b]? =some o:=(Below.heap_setCell _ _ _ _ hne).trans h
theorem parse1_idle (p q r:Addr)(w:World):
  CallsD Tryz.prog 15 #[.pointer (some p),.pointer (some q),.pointer (some r)] .returning w fun e u' w'=> e= .returned (.tuple #[])∧u'= .returning∧w'=w:=by
 refine callsD_of_wpS Tryz.func15 rfl fun c₀ cs hu=> ?_
 apply wpS_seq
 apply wpS_region
 simp [wpOpsS,go_sem,recoverD,hu,Tryz.ntmps15,Exit.thenS]
 refine wpS_of_wp ?_
 have e:(#[Value.pointer (some p),Value.pointer (some q),Value.pointer (some r)] ++(Array.replicate 14 undef).setIfInBounds 3 Value.nilIface)=#[Value.pointer (some p),Value.pointer (some q),Value.pointer (some r),undef,undef,undef,Value.nilIface,undef,undef,undef,undef,undef,undef,undef,undef,undef,undef]:=by simp [Array.replicate]
 rw [e]
 go_wp2_with fail
 cases c₀
 simp_all [bodyPostS,results,Tryz.results15]
theorem own_cap2 {w:World}{base e size n c:Nat}{A:Option Addr}{xs:List Value}(h:w.ownsRow base e size (.slice A n c) n xs):n≤c∧c≤9223372036854775807:=by
 rcases h.2 with ⟨hv,h0⟩ | ⟨g,cap,cur,hv,_,_,hnc,hm,_⟩
 ·injection hv with _ _ hc
  omega
 ·injection hv with _ _ hc
  unfold maxLen at hm
  omega
theorem one_newY {w:World}{o:Obj}{k:Nat}(h:k < w.heap.size):(w.alloc o).heap[k]? =w.heap[k]? :=((Below.refl w.heap.size w).alloc (Nat.le_refl _) o).block k h
theorem zparse (s:List UInt8)(f:Nat)(l r1:List Tok)(y x:Ex)(nm:List UInt8)(v0 v1 v2 v3 v4 v5 v v6:Val)(w:World)(hs:s.length≤16384)(hp:Plain s)(hz:LexZ s 0 ((1,w_proc,v0)::(1,nm,v1)::(4,[40],v2)::(4,[41],v3)::(4,[123],v4)::(1,w_emit,v5)::l))(hn:isNameL nm=true∧nm.length≤1000000)(hq:QO l y r1)(hl:QL f 0 y r1 x ((4,[59],v)::(4,[125],v6)::[]))(hln:0 < l.length∧l.length≤1000):
  Calls Tryz.prog 5 #[.string ⟨s.toArray⟩] w fun e w'=> (∃v S,e= .returned (.tuple #[v,nv 0,.agg #[nv 0,nv 0,nv 0]])∧WkR w' S ⟨[],[⟨nm,[],.cons (.emit x) .nil⟩]⟩ v∧In w.heap.size w' S)∧Below w.heap.size w w':=by
 have HC:=Lib.hid (fun g W (P:Pz W g 0 _)=> zwork f g l r1 y x nm v0 v1 v2 v3 v4 v5 v v6 W P hn hq hl hln.1)
 have HZ:=Lib.hid (fun W=> zall s _ W hs hp hz (by simp;omega))
 have hpl:=(plain_line hp s.length (Nat.le_refl _)).1
 generalize ((1,w_proc,v0)::(1,nm,v1)::(4,[40],v2)::(4,[41],v3)::(4,[123],v4)::(1,w_emit,v5)::l)=L at HC HZ
 clear hp hz hn hq hl hln hpl
 have hmf: ∀(fn:Fn) (first cap:Array Value) (w:World),(Instr.makeFunc fn first cap).run Tryz.prog w= .ok (.func fn first cap) w:=fun _ _ _ _=> rfl
 go_enter_defers Tryz.func5,Tryz.ntmps5
 go_wp2_with fail
 obtain ⟨w1,hw1⟩: ∃W,((w.alloc (.cells #[.slice none 0 0,.slice none 0 0] 25)).alloc (.cells #[.int .i64 0] 26)).alloc (.cells #[.int .i64 0,.int .i64 0,.int .i64 0] 28)=W:=⟨_,rfl⟩
 have hb1:Below w.heap.size w w1:=by rw [← hw1];repeat (first | exact Below.refl _ _ | refine Below.alloc ?_ (by simp <;> omega) _)
 have X2:w1.heap[w.heap.size]? =some (.cells #[.slice none 0 0,.slice none 0 0] 25 (0,0)):=by rw [← hw1];exact alloc_old' (alloc_old' (alloc_at rfl))
 have X3:w1.heap[w.heap.size+1]? =some (.cells #[.int .i64 0] 26 (0,0)):=by rw [← hw1];exact alloc_old' (alloc_at (by simp))
 have X4:w1.heap[w.heap.size+1+1]? =some (.cells #[.int .i64 0,.int .i64 0,.int .i64 0] 28 (0,0)):=by rw [← hw1];exact alloc_at (by simp)
 rw [hw1]
 clear hw1
 refine (HZ.out w1).mono ?_;rintro e w2 ⟨⟨A,n,c,xs,rfl,ho,hr⟩,b2⟩
 have hA: ∀p,A=some p→w1.heap.size≤p.block:=fun p hp=> by subst hp;have:=(ho.lt p.block rfl).1;omega
 have hn:=own_cap2 ho
 have hx:=And.intro (Rd.of_own ho) hr
 clear ho hr
 have hz0:w.heap.size+1+1 < w1.heap.size:=(Array.getElem?_eq_some_iff.1 X4).1
 have hz2:=b2.size
 have B2:=Lib.hid (hb1.trans (b2.mono hb1.size))
 replace X2:=Lib.hid (box_next X2 b2)
 replace X3:=Lib.hid (box_next X3 b2)
 replace X4:=Lib.hid (box_next X4 b2)
 clear hb1 b2
 have y20:w2.cell? ⟨w.heap.size,0,none⟩=some (.slice none 0 0):=by rw [Lib.cell_of_heap X2.out];rfl
 have y21:w2.cell? ⟨w.heap.size,1,none⟩=some (.slice none 0 0):=by rw [Lib.cell_of_heap X2.out];rfl
 have y3:w2.cell? ⟨w.heap.size+1,0,none⟩=some (.int .i64 0):=by rw [Lib.cell_of_heap X3.out];rfl
 have y40:w2.cell? ⟨w.heap.size+1+1,0,none⟩=some (.int .i64 0):=by rw [Lib.cell_of_heap X4.out];rfl
 have y41:w2.cell? ⟨w.heap.size+1+1,1,none⟩=some (.int .i64 0):=by rw [Lib.cell_of_heap X4.out];rfl
 have y42:w2.cell? ⟨w.heap.size+1+1,2,none⟩=some (.int .i64 0):=by rw [Lib.cell_of_heap X4.out];rfl
 have yf20:=Lib.frozen_of_heap X2.out 0
 have yf21:=Lib.frozen_of_heap X2.out 1
 have yf30:=Lib.frozen_of_heap X3.out 0
 have yf40:=Lib.frozen_of_heap X4.out 0
 have yf41:=Lib.frozen_of_heap X4.out 1
 have yf42:=Lib.frozen_of_heap X4.out 2
 have HX:=Lib.hid hx
 have HA:=Lib.hid hA
 have hz1:w.heap.size+1+1 < w1.heap.size:=hz0
 have hz12:w1.heap.size≤w2.heap.size:=hz2
 clear hA
 have HN:=Lib.hid hn
 clear hx hn
 have hz:w.heap.size+1+1 < w2.heap.size:=(Array.getElem?_eq_some_iff.1 X4.out).1
 go_wp2_with fail
 obtain ⟨V,hV⟩: ∃V,(((w2.setCell ⟨w.heap.size+1,0,none⟩ (.int .i64 0)).setCell ⟨w.heap.size+1+1,0,none⟩ (.int .i64 0)).setCell ⟨w.heap.size+1+1,1,none⟩ (.int .i64 0)).setCell ⟨w.heap.size+1+1,2,none⟩ (.int .i64 0)=V:=⟨_,rfl⟩
 have Z2:V.heap[w.heap.size]? =some (.cells #[.slice none 0 0,.slice none 0 0] 25 (0,0)):=by
  rw [← hV]
  exact box_setY (box_setY (box_setY (box_setY X2.out _ _ (by omega) _) _ _ (by omega) _) _ _ (by omega) _) _ _ (by omega) _
 have Z3:V.heap[w.heap.size+1]? =some (.cells #[.int .i64 0] 26 (0,0)):=by
  rw [← hV]
  exact box_setY (box_setY (box_setY (heap_set (i:=0) X3.out (.int .i64 0)) _ _ (by omega) _) _ _ (by omega) _) _ _ (by omega) _
 have Z4:V.heap[w.heap.size+1+1]? =some (.cells #[.int .i64 0,.int .i64 0,.int .i64 0] 28 (0,0)):=by
  rw [← hV]
  exact heap_set (i:=2) (heap_set (i:=1) (heap_set (i:=0) (box_setY X4.out _ _ (by omega) _) (.int .i64 0)) (.int .i64 0)) (.int .i64 0)
 have hVk: ∀k,w1.heap.size≤k→V.heap[k]? =w2.heap[k]? :=fun k hk=> by
  rw [← hV]
  rw [Below.heap_setCell _ _ _ _ (by simp only;omega),Below.heap_setCell _ _ _ _ (by simp only;omega),Below.heap_setCell _ _ _ _ (by simp only;omega),Below.heap_setCell _ _ _ _ (by simp only;omega)]
 have hVs:V.heap.size=w2.heap.size:=by rw [← hV];simp
 have BV:Hid (Below w.heap.size w V):=Lib.hid (by
  rw [← hV]
  repeat (first | (with_reducible exact B2.out) | refine Below.setCell ?_ (by simp only;omega) _))
 rw [hV]
 clear hV X2 X3 X4 y20 y21 y3 y40 y41 y42 yf20 yf21 yf30 yf40 yf41 yf42
 refine (at_any s s.length V (by omega)).mono ?_;rintro e w3 ⟨rfl,b3⟩
 have hcl:plc s (clampI s (s.length:Nat))= .agg #[nv (s.length:Nat),nv (lineOf s s.length:Nat),nv ((s.length:Int) - (startOf s s.length:Int)+1)]:=by
  have:clampI s (s.length:Nat)=s.length:=by unfold clampI;rw [if_neg (by omega),if_neg (by omega)];omega
  rw [this];rfl
 rw [hcl]
 obtain ⟨pl,hpl⟩: ∃z:Int,z=(lineOf s s.length:Nat):=⟨_,rfl⟩
 obtain ⟨pc,hpc⟩: ∃z:Int,z=((s.length:Int) - (startOf s s.length:Int)+1):=⟨_,rfl⟩
 rw [← hpl,← hpc]
 clear hcl hpl hpc
 replace Z2:=Lib.hid (box_next Z2 b3)
 replace Z3:=Lib.hid (box_next Z3 b3)
 replace Z4:=Lib.hid (box_next Z4 b3)
 have hs3:=b3.size
 have K3:Hid (∀k,w1.heap.size≤k→k < w2.heap.size→w3.heap[k]? =w2.heap[k]?):=Lib.hid fun k h1 h2=> (b3.block k (by omega)).trans (hVk k h1)
 have B3:=Lib.hid (BV.out.trans (b3.mono BV.out.size))
 clear b3 hVk BV
 go_wp2_with fail
 obtain ⟨w4,hw4⟩: ∃W,w3.alloc (Obj.cells #[.slice A n c,nv (s.length:Nat),nv pl,nv pc,.int .i64 0] 54)=W:=⟨_,rfl⟩
 have hps:Pz w4 w3.heap.size 0 L:=by
  rw [← hw4]
  refine ⟨A,n,c,(s.length:Nat),pl,pc,alloc_at rfl,⟨?_,HN.out⟩⟩
  obtain ⟨h1,h2⟩:=HX.out
  refine ⟨xs,⟨h1.1,fun hp=> ?_⟩,h2⟩
  obtain ⟨b,off,e,hb,hc⟩:=h1.2 hp
  refine ⟨b,off,e,by omega,fun j hj=> ?_⟩
  have hbA:=HA.out _ e
  refine (World.cell?_of_block (a:=⟨b,off+j,none⟩) ?_).trans (hc j hj)
  rw [← K3.out b hbA hb]
  exact one_newY (by simp only;omega)
 have B4:Hid (Below w.heap.size w w4):=Lib.hid (by rw [← hw4];exact B3.out.alloc (by omega) _)
 replace Z2:Hid (w4.heap[w.heap.size]? =some (.cells #[.slice none 0 0,.slice none 0 0] 25 (0,0))):=Lib.hid (by rw [← hw4];exact alloc_old' Z2.out)
 replace Z3:Hid (w4.heap[w.heap.size+1]? =some (.cells #[.int .i64 0] 26 (0,0))):=Lib.hid (by rw [← hw4];exact alloc_old' Z3.out)
 replace Z4:Hid (w4.heap[w.heap.size+1+1]? =some (.cells #[.int .i64 0,.int .i64 0,.int .i64 0] 28 (0,0))):=Lib.hid (by rw [← hw4];exact alloc_old' Z4.out)
 have hs4:w3.heap.size < w4.heap.size:=by rw [← hw4];simp
 rw [hw4]
 clear hw4 HX K3
 refine (HC.out w3.heap.size w4 hps).mono ?_;rintro e w5 ⟨m0,p5,v9,rfl,S,hwk,hin⟩
 have m:=Lib.hid m0
 have Q5:Hid (Below w.heap.size w w5):=Lib.hid (B4.out.trans (m.out.below (by omega) (fun x hx=> by simp at hx;omega)))
 replace Z2:=Lib.hid (m.out.box Z2.out (by simp;omega))
 replace Z3:=Lib.hid (m.out.box Z3.out (by simp;omega))
 replace Z4:=Lib.hid (m.out.box Z4.out (by simp;omega))
 have hs5:=m.out.size
 obtain ⟨A',c',es,B',d',fs,rfl,r1,r2,r3⟩:=hwk
 have HG:Hid (WkR w5 S (⟨[],[⟨nm,[],.cons (.emit x) .nil⟩]⟩:Wk) (.agg #[.slice A' 0 c',.slice B' 1 d'])∧In w4.heap.size w5 S):=Lib.hid ⟨⟨A',c',es,B',d',fs,rfl,r1,r2,r3⟩,hin⟩
 clear m0 p5 hps r1 r2 r3 hin
 have yf20:=Lib.frozen_of_heap Z2.out 0
 have yf21:=Lib.frozen_of_heap Z2.out 1
 have yf30:=Lib.frozen_of_heap Z3.out 0
 have yf40:=Lib.frozen_of_heap Z4.out 0
 have yf41:=Lib.frozen_of_heap Z4.out 1
 have yf42:=Lib.frozen_of_heap Z4.out 2
 have y20:w5.cell? ⟨w.heap.size,0,none⟩=some (.slice none 0 0):=by rw [Lib.cell_of_heap Z2.out];rfl
 have y21:w5.cell? ⟨w.heap.size,1,none⟩=some (.slice none 0 0):=by rw [Lib.cell_of_heap Z2.out];rfl
 have y3:w5.cell? ⟨w.heap.size+1,0,none⟩=some (.int .i64 0):=by rw [Lib.cell_of_heap Z3.out];rfl
 have y40:w5.cell? ⟨w.heap.size+1+1,0,none⟩=some (.int .i64 0):=by rw [Lib.cell_of_heap Z4.out];rfl
 have y41:w5.cell? ⟨w.heap.size+1+1,1,none⟩=some (.int .i64 0):=by rw [Lib.cell_of_heap Z4.out];rfl
 have y42:w5.cell? ⟨w.heap.size+1+1,2,none⟩=some (.int .i64 0):=by rw [Lib.cell_of_heap Z4.out];rfl
 go_wp2_with fail
 refine leaves_cons (f:=15) (args:=#[.pointer (some ⟨w.heap.size,0,none⟩),.pointer (some ⟨w.heap.size+1,0,none⟩),.pointer (some ⟨w.heap.size+1+1,0,none⟩)]) (by simp) (by simp [go_sem]) ?_
 refine (parse1_idle _ _ _ _).mono ?_
 rintro e u' w6 ⟨rfl,rfl,rfl⟩
 have q2:=box_setY (box_setY (box_setY (box_setY (heap_set (i:=1) (heap_set (i:=0) Z2.out (.slice A' 0 c')) (.slice B' 1 d')) (w.heap.size+1) 0 (by omega) (.int .i64 0)) (w.heap.size+1+1) 0 (by omega) (.int .i64 0)) (w.heap.size+1+1) 1 (by omega) (.int .i64 0)) (w.heap.size+1+1) 2 (by omega) (.int .i64 0)
 have q3:=box_setY (box_setY (box_setY (heap_set (i:=0) (box_setY (box_setY Z3.out w.heap.size 0 (by omega) (.slice A' 0 c')) w.heap.size 1 (by omega) (.slice B' 1 d')) (.int .i64 0)) (w.heap.size+1+1) 0 (by omega) (.int .i64 0)) (w.heap.size+1+1) 1 (by omega) (.int .i64 0)) (w.heap.size+1+1) 2 (by omega) (.int .i64 0)
 have q4:=heap_set (i:=2) (heap_set (i:=1) (heap_set (i:=0) (box_setY (box_setY (box_setY Z4.out w.heap.size 0 (by omega) (.slice A' 0 c')) w.heap.size 1 (by omega) (.slice B' 1 d')) (w.heap.size+1) 0 (by omega) (.int .i64 0)) (.int .i64 0)) (.int .i64 0)) (.int .i64 0)
 obtain ⟨w6,hw6⟩: ∃W,(((((w5.setCell ⟨w.heap.size,0,none⟩ (.slice A' 0 c')).setCell ⟨w.heap.size,1,none⟩ (.slice B' 1 d')).setCell ⟨w.heap.size+1,0,none⟩ (.int .i64 0)).setCell ⟨w.heap.size+1+1,0,none⟩ (.int .i64 0)).setCell ⟨w.heap.size+1+1,1,none⟩ (.int .i64 0)).setCell ⟨w.heap.size+1+1,2,none⟩ (.int .i64 0)=W:=⟨_,rfl⟩
 have hk6: ∀x,w.heap.size+1+1 < x→w6.heap[x]? =w5.heap[x]? :=fun x hx=> by
  rw [← hw6]
  iterate 6 rw [Below.heap_setCell _ _ _ _ (by simp only;omega)]
 have hs6:w6.heap.size=w5.heap.size:=by rw [← hw6];simp
 have B6:Below w.heap.size w w6:=by
  rw [← hw6]
  repeat (first | (with_reducible exact Q5.out) | refine Below.setCell ?_ (by simp only;omega) _)
 have hfin:(∃S,WkR w6 S (⟨[],[⟨nm,[],.cons (.emit x) .nil⟩]⟩:Wk) (.agg #[.slice A' 0 c',.slice B' 1 d'])∧In w.heap.size w6 S)∧Below w.heap.size w w6:=by
  refine ⟨⟨S,HG.out.1.keep fun x hx=> hk6 x (by have:=(HG.out.2 x hx).1;omega),fun x hx=> ?_⟩,B6⟩
  have:=HG.out.2 x hx
  omega
 have HF:=Lib.hid hfin
 clear hfin y20 y21 y3 y40 y41 y42
 rw [hw6]at q2 q3 q4⊢
 have y20:w6.cell? ⟨w.heap.size,0,none⟩=some (.slice A' 0 c'):=by rw [Lib.cell_of_heap q2];rfl
 have y21:w6.cell? ⟨w.heap.size,1,none⟩=some (.slice B' 1 d'):=by rw [Lib.cell_of_heap q2];rfl
 have y3:w6.cell? ⟨w.heap.size+1,0,none⟩=some (.int .i64 0):=by rw [Lib.cell_of_heap q3];rfl
 have y40:w6.cell? ⟨w.heap.size+1+1,0,none⟩=some (.int .i64 0):=by rw [Lib.cell_of_heap q4];rfl
 have y41:w6.cell? ⟨w.heap.size+1+1,1,none⟩=some (.int .i64 0):=by rw [Lib.cell_of_heap q4];rfl
 have y42:w6.cell? ⟨w.heap.size+1+1,2,none⟩=some (.int .i64 0):=by rw [Lib.cell_of_heap q4];rfl
 simp [Leaves,settle,results,Tryz.results5,go_sem,y20,y21,y3,y40,y41,y42]
 exact HF.out
end Go.Proofs.YtnbmpfdffoidaaaGreatDoor.Y
namespace Go.Proofs.YtnbmpfdffoidaaaGreatDoor.Y
open Go.RowKit O V S X
def x0L:Ex:= .bin 8 (.bin 8 (.var [97]) (.var [98])) (.bin 10 (.var [99]) (.val ⟨1,2,[]⟩))
def k0L:Wk:=⟨[],[⟨[112],[],.cons (.emit x0L) .nil⟩]⟩
theorem k0_ok:okW k0L:=by
 have h: ∀c:List UInt8,isNameL c=true→isNameL c=true:=fun _ h=> h
 refine ⟨⟨by simp [k0L],fun t ht=> by cases ht⟩,⟨by simp [k0L],fun p hp=> ?_⟩⟩
 simp only [k0L,List.mem_singleton]at hp
 subst hp
 refine ⟨by decide,⟨by simp,fun c hc=> by cases hc⟩,?_⟩
 refine ⟨⟨?_,by decide⟩,by decide⟩
 rw [okB,okB,okS]
 refine ⟨⟨by omega,⟨by omega,?_,?_⟩,by omega,?_,?_⟩,trivial⟩
 ·show isNameL [97]=true;decide
 ·show isNameL [98]=true;decide
 ·show isNameL [99]=true;decide
 ·exact ⟨by decide,fun _=> by decide⟩
theorem k0_okx:okX x0L:=by
 have:=(k0_ok.p.2 ⟨[112],[],.cons (.emit x0L) .nil⟩ (by simp [k0L])).b.1.1
 rw [okB,okS]at this
 exact this.1
def u0L:List UInt8:=[112,114,111,99,32,112,32,40,32,41,32,123,32,101,109,105,116,32,97,32,45,32,98,32,45,32,99,32,42,32,50,32,59,32,125]
theorem LexZ.mk {s t:List UInt8}{i j:Nat}{k:Int}{n:Nat}{v:Val}{l:List Tok}(hj:gapZ s i=j)(h:j < s.length)(ht:(s.drop j).take n=t)(z:TokY (s.drop j) k n v)(r:LexZ s (j+n) l):LexZ s i ((k,t,v)::l):=by
 subst hj ht
 exact .tok h z r
theorem u0_lex:LexZ u0L 0 [(1,w_proc,zeroV),(1,[112],zeroV),(4,[40],zeroV),(4,[41],zeroV),(4,[123],zeroV),(1,w_emit,zeroV),(1,[97],zeroV),(4,[45],zeroV),(1,[98],zeroV),(4,[45],zeroV),(1,[99],zeroV),(4,[42],zeroV),(2,[50],⟨1,2,[]⟩),(4,[59],zeroV),(4,[125],zeroV)]:=by
 have W: ∀{t:List UInt8} {n:Nat},smallC (t.getD 0 0)=true→runLen wordC t=n→n≤16→TokY t 1 n zeroV:=fun a b c=> .inl ⟨a,rfl,b,c,rfl⟩
 have G: ∀{t:List UInt8} {n:Nat},smallC (t.getD 0 0)=false→digitC (t.getD 0 0)=false→signL t=n→n≠0→TokY t 4 n zeroV:=fun a b c d=> .inr (.inr ⟨a,b,rfl,c,d,rfl⟩)
 refine .mk (j:=0) (n:=4) (by decide) (by decide) (by decide) (W (by decide) (by decide) (by decide)) ?_
 refine .mk (j:=5) (n:=1) (by decide) (by decide) (by decide) (W (by decide) (by decide) (by decide)) ?_
 refine .mk (j:=7) (n:=1) (by decide) (by decide) (by decide) (G (by decide) (by decide) (by decide) (by decide)) ?_
 refine .mk (j:=9) (n:=1) (by decide) (by decide) (by decide) (G (by decide) (by decide) (by decide) (by decide)) ?_
 refine .mk (j:=11) (n:=1) (by decide) (by decide) (by decide) (G (by decide) (by decide) (by decide) (by decide)) ?_
 refine .mk (j:=13) (n:=4) (by decide) (by decide) (by decide) (W (by decide) (by decide) (by decide)) ?_
 refine .mk (j:=18) (n:=1) (by decide) (by decide) (by decide) (W (by decide) (by decide) (by decide)) ?_
 refine .mk (j:=20) (n:=1) (by decide) (by decide) (by decide) (G (by decide) (by decide) (by decide) (by decide)) ?_
 refine .mk (j:=22) (n:=1) (by decide) (by decide) (by decide) (W (by decide) (by decide) (by decide)) ?_
 refine .mk (j:=24) (n:=1) (by decide) (by decide) (by decide) (G (by decide) (by decide) (by decide) (by decide)) ?_
 refine .mk (j:=26) (n:=1) (by decide) (by decide) (by decide) (W (by decide) (by decide) (by decide)) ?_
 refine .mk (j:=28) (n:=1) (by decide) (by decide) (by decide) (G (by decide) (by decide) (by decide) (by decide)) ?_
 refine .mk (j:=30) (n:=1) (by decide) (by decide) (by decide) (.inr (.inl ⟨by decide,by decide,rfl,by decide,by decide,rfl⟩)) ?_
 refine .mk (j:=32) (n:=1) (by decide) (by decide) (by decide) (G (by decide) (by decide) (by decide) (by decide)) ?_
 refine .mk (j:=34) (n:=1) (by decide) (by decide) (by decide) (G (by decide) (by decide) (by decide) (by decide)) ?_
 exact .done (by decide)
theorem qn (c:UInt8)(h:[c]≠[33]∧[c]≠[45])(k:OpdW [c])(t:List UInt8)(v:Val)(l:List Tok)(h91:isT ((4,t,v)::l) [91]=false):QO ((1,[c],zeroV)::(4,t,v)::l) (.var [c]) ((4,t,v)::l):= .name h k h91
theorem opd1 {c:UInt8}(h:isNameL [c]=true)(k:[c]≠[40]):OpdW [c]:=⟨h,by simp,by simp [w_true],by simp [w_false],by simp [w_has],by simp [w_sum],by simp [w_count],k⟩
theorem u0_expr:QL 3 0 (.var [97]) [(4,[45],zeroV),(1,[98],zeroV),(4,[45],zeroV),(1,[99],zeroV),(4,[42],zeroV),(2,[50],⟨1,2,[]⟩),(4,[59],zeroV),(4,[125],zeroV)] x0L [(4,[59],zeroV),(4,[125],zeroV)]:=by
 refine .step (y1:= .var [98]) (z:= .var [98]) (by decide) (qn 98 (by decide) (opd1 (by decide) (by decide)) _ _ _ (by decide)) (.stop (by decide)) (by decide) ?_
 refine .step (y1:= .var [99]) (z:= .bin 10 (.var [99]) (.val ⟨1,2,[]⟩)) (by decide) (qn 99 (by decide) (opd1 (by decide) (by decide)) _ _ _ (by decide)) ?_ (by decide) (.stop (by decide))
 exact .step (y1:= .val ⟨1,2,[]⟩) (z:= .val ⟨1,2,[]⟩) (by decide) (.num (by decide)) (.stop (by decide)) (by decide) (.stop (by decide))
theorem parse0 (w:World):Calls Tryz.prog 5 #[.string ⟨u0L.toArray⟩] w fun e w'=> (∃v S,e= .returned (.tuple #[v,nv 0,.agg #[nv 0,nv 0,nv 0]])∧WkR w' S k0L v∧In w.heap.size w' S)∧Below w.heap.size w w':=
 zparse u0L 3 _ _ _ x0L [112] zeroV zeroV zeroV zeroV zeroV zeroV zeroV zeroV w (by decide) (by unfold Plain;decide) u0_lex (by decide) (qn 97 (by decide) (opd1 (by decide) (by decide)) _ _ _ (by decide)) u0_expr (by decide)
theorem dec2:decL 2=[50]:=by
 unfold decL
 rw [if_neg (by omega)]
 show digN 2=_
 rw [digN_lt (by omega)]
 rfl
theorem live_mem {w:World}{S:Nat→Prop}{v:Value}{B:Nat}(h:WkR w S k0L v)(hS: ∀b,S b→b < B):
  ∃A c b1 o1 d b2 o2 d2 b3 o3 d3 b4 o4 d4,∃p q r p1 q1 r1 p2 q2 r2:Int,∃A1 c1 A2 c2,(v= .agg #[.slice A 0 c,.slice (some ⟨b1,o1,none⟩) 1 d]∧(b1 < B∧b2 < B)∧b3 < B∧b4 < B)∧
   w.cell? ⟨b1,o1+2,none⟩=some (.slice (some ⟨b2,o2,none⟩) 1 d2)∧w.cell? ⟨b2,o2+5,none⟩=some (.slice (some ⟨b3,o3,none⟩) 1 d3)∧
   (∀j,j < 11→w.cell? ⟨b3,o3+j,none⟩=(exC x0L (.slice (some ⟨b4,o4,none⟩) 2 d4) p q r)[j]?)∧ExAt w S x0L (some ⟨b4,o4,none⟩) d4∧
   (∀j,j < 11→w.cell? ⟨b4,o4+j,none⟩=(exC (.bin 8 (.var [97]) (.var [98])) (.slice A1 2 c1) p1 q1 r1)[j]?)∧
   (∀j,j < 11→w.cell? ⟨b4,o4+11+j,none⟩=(exC (.bin 10 (.var [99]) (.val ⟨1,2,[]⟩)) (.slice A2 2 c2) p2 q2 r2)[j]?):=by
 obtain ⟨A,c,es,B1,d,fs,rfl,_,h1,h2⟩:=h
 obtain ⟨b1,o1,vs,e1,hb1,⟨Ap,cp,eps,B2,d2,bs,pp,pq,pr,rfl,_,h3,h4⟩,hc1⟩:=(h1.rd hS).elem PcR.size h2 (i:=0) (by simp [k0L]) (by omega)
 subst e1
 simp only [Nat.zero_mul,Nat.add_zero]at hc1
 have h4':=(StsR_reps _ _).1 h4
 obtain ⟨b2,o2,vs2,e2,hb2,hst,hc2⟩:=(h3.rd hS).elem StR.size h4' (i:=0) (by simp [k0L,Sts.list]) (by omega)
 subst e2
 simp only [Nat.zero_mul,Nat.add_zero]at hc2
 have hst:StR w S (.emit x0L) vs2:=hst
 obtain ⟨A3,c3,es3,B3,d3,bs3,E3,f3,fs3,p3,q3,r3,rfl,⟨h5,h6⟩,_⟩:=(StR_eq _ _).1 hst
 obtain ⟨b3,o3,vs3,e3,hb3,hx,hc3⟩:=(h5.rd hS).elem ExR.size h6 (i:=0) (by simp [stA]) (by omega)
 subst e3
 simp only [Nat.zero_mul,Nat.add_zero]at hc3
 have hx:ExR w S x0L vs3:=hx
 obtain ⟨A4,d4,p,q,r,rfl,hat⟩:=ExAt.of hx
 obtain ⟨b4,o4,A1,c1,p1,q1,r1,e4,hb4,hc4,_⟩:=hat.part hS (i:=0) (by simp [x0L,parts])
 obtain ⟨b5,o5,A2,c2,p2,q2,r2,e5,_,hc5,_⟩:=hat.part hS (i:=1) (by simp [x0L,parts])
 subst e4
 injection e5 with e5
 injection e5 with e5 e6
 subst e5 e6
 refine ⟨A,c,b1,o1,d,b2,o2,d2,b3,o3,c3,b4,o4,d4,p,q,r,p1,q1,r1,p2,q2,r2,A1,c1,A2,c2,⟨rfl,⟨hb1,hb2⟩,hb3,hb4⟩,hc1 2 (by omega),hc2 5 (by omega),hc3,hat,?_,?_⟩
 ·intro j hj
  have:=hc4 j hj
  simp only [Nat.zero_mul,Nat.add_zero]at this
  exact this
 ·intro j hj
  have:=hc5 j hj
  simp only [Nat.one_mul]at this
  exact this
def t0L:List UInt8:=[97,32,45,32,98,32,45,32,99,32,42,32,50]
theorem t0_text:textOf (toks0 x0L)=t0L:=by
 have e:toks0 x0L=[tw [97],tg [45],tw [98],tg [45],tw [99],tg [42],tv ⟨1,2,[]⟩]:=by simp [x0L,toks0,br,lvlX,lvlS,signS]
 unfold textOf
 rw [e]
 have e2:tv ⟨1,2,[]⟩=tn 2:=rfl
 rw [e2]
 show joinB [[97],[45],[98],[45],[99],[42],decL 2]=_
 rw [dec2]
 rfl
theorem liveZ_any (w:World):Calls Tryz.prog 7 #[] w fun e w'=> e= .returned (.bool true)∧Below w.heap.size w w':=by
 go_enter Tryz.func7,Tryz.ntmps7
 go_wp2_with fail
 refine (parse0 w).mono ?_;rintro e w1 ⟨⟨v,S,rfl,hk,hin⟩,b1⟩
 obtain ⟨A,c,g1,o1,d,g2,o2,d2,g3,o3,d3,g4,o4,d4,p,q,r,p1,q1,r1,p2,q2,r2,A1,c1,A2,c2,⟨rfl,⟨hg1,hg2⟩,hg3,hg4⟩,y1,y2,hc3,hat,hc4,hc5⟩:=live_mem hk (B:=w1.heap.size) (fun b hb=> (hin b hb).2)
 have HAT:=Lib.hid hat
 have HIN:=Lib.hid hin
 have B1:=Lib.hid b1
 clear hk hat hin b1
 have x0:w1.cell? ⟨g3,o3,none⟩=some (nv 8):=hc3 0 (by omega)
 have x1:w1.cell? ⟨g3,o3+1,none⟩=some (nv 0):=hc3 1 (by omega)
 have x2:w1.cell? ⟨g3,o3+2,none⟩=some (nv 0):=hc3 2 (by omega)
 have x3:w1.cell? ⟨g3,o3+3,none⟩=some (sv []):=hc3 3 (by omega)
 have x4:w1.cell? ⟨g3,o3+4,none⟩=some (sv []):=hc3 4 (by omega)
 have x5:w1.cell? ⟨g3,o3+5,none⟩=some (sv []):=hc3 5 (by omega)
 have x6:w1.cell? ⟨g3,o3+6,none⟩=some (nv 8):=hc3 6 (by omega)
 have x7:w1.cell? ⟨g3,o3+7,none⟩=some (.slice (some ⟨g4,o4,none⟩) 2 d4):=hc3 7 (by omega)
 have x8:w1.cell? ⟨g3,o3+8,none⟩=some (nv p):=hc3 8 (by omega)
 have x9:w1.cell? ⟨g3,o3+9,none⟩=some (nv q):=hc3 9 (by omega)
 have x10:w1.cell? ⟨g3,o3+10,none⟩=some (nv r):=hc3 10 (by omega)
 have z6:w1.cell? ⟨g4,o4+6,none⟩=some (nv 8):=hc4 6 (by omega)
 have z17:w1.cell? ⟨g4,o4+11+6,none⟩=some (nv 10):=hc5 6 (by omega)
 clear hc3 hc4 hc5
 go_upto_region 5 with fail
 obtain ⟨W,hW⟩: ∃W,((w1.alloc (.cells #[.slice A 0 c,.slice (some ⟨g1,o1,none⟩) 1 d] 25)).alloc (.cells #[nv 0,nv 0,nv 0] 28)).alloc (.cells #[nv 8,nv 0,nv 0,sv [],sv [],sv [],nv 8,.slice (some ⟨g4,o4,none⟩) 2 d4,nv p,nv q,nv r] 59)=W:=⟨_,rfl⟩
 have bW:Below w1.heap.size w1 W:=by rw [← hW];repeat (first | exact Below.refl _ _ | refine Below.alloc ?_ (by first | omega | (simp <;> omega)) _)
 have BX:W.heap[w1.heap.size+1+1]? =some (exB 8 0 0 [] [] [] 8 (.slice (some ⟨g4,o4,none⟩) 2 d4) p q r):=by rw [← hW];exact alloc_at (by simp)
 replace z6:W.cell? ⟨g4,o4+6,none⟩=some (nv 8):=(bW.cell (p:=⟨g4,o4+6,none⟩) hg4).trans z6
 replace z17:W.cell? ⟨g4,o4+11+6,none⟩=some (nv 10):=(bW.cell (p:=⟨g4,o4+11+6,none⟩) hg4).trans z17
 have hat2:ExAt W S x0L (some ⟨g4,o4,none⟩) d4:=HAT.out.keep fun b hb=> bW.block b (HIN.out b hb).2
 have BW:=Lib.hid (B1.out.trans (bW.mono B1.out.size))
 rw [hW]
 clear hW x0 x1 x2 x3 x4 x5 x6 x7 x8 x9 x10
 have HA2:=Lib.hid hat2
 have HS2:Hid (∀b,S b→b < W.heap.size):=Lib.hid fun b hb=> Nat.lt_of_lt_of_le (HIN.out b hb).2 bW.size
 clear hat2 bW
 obtain ⟨⟨⟨⟨x0,x1⟩,x2,x3⟩,⟨x4,x5⟩,x6,x7⟩,⟨x8,x9⟩,x10⟩:=cells11 BX
 clear BX
 go_wp2_with fail
 refine (printExpr_any x0L k0_okx (some ⟨g4,o4,none⟩) d4 p q r S W HA2.out HS2.out (by decide) (by rw [t0_text];decide)).mono ?_;rintro e w5 ⟨rfl,b5⟩
 rw [t0_text]
 go_wp2_with fail
 go_ret
 exact ⟨rfl,BW.out.trans (b5.mono BW.out.size)⟩
end Go.Proofs.YtnbmpfdffoidaaaGreatDoor.Y
