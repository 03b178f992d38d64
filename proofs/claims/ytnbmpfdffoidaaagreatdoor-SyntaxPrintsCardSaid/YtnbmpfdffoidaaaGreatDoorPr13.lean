/- Texts of the proof, joined: RfD. -/
import Derived.Test.YtnbmpfdffoidaaaGreatDoorPr12
import Derived.Deep.CutBlock
set_option linter.unusedVariables false
set_option linter.unusedSimpArgs false
set_option maxHeartbeats 8000000
set_option maxRecDepth 100000
namespace Go.Proofs.YtnbmpfdffoidaaaGreatDoor.Y
open Go.RowKit O V S X
def litS:Sg→Bool
 | some (_,t::_)=> decide (t.1=2) || decide (t.1=3)
 | _=> false
theorem ST.view {w:World}{g:Nat}{σ:Sg}(h:ST w g σ):(∃(A:Option Addr) (n c:Nat) (d e a b x p q r:Int),w.heap[g]? =some (rfB A n c n d e a b x p q r)∧n≤100000∧n≤c∧c≤9223372036854775807∧∀d t l,σ≠some (d,t::l))∨
  ∃(d:Nat) (t:Tok) (l:List Tok) (A:Option Addr) (n c:Nat) (L:List Tok) (i:Nat) (a b x p q r:Int),σ=some (d,t::l)∧RfA w g A n c L i d 0 a b x p q r∧∃hi:i < L.length,L[i]=t:=by
 match σ,h with
 | none,⟨A,n,c,L,d,e,a,b,x,p,q,r,_,h⟩=> exact .inl ⟨A,n,c,d,e,a,b,x,p,q,r,h.box,h.len,h.row.cap.1,h.row.cap.2,fun _ _ _ h=> nomatch h⟩
 | some (d,[]),⟨A,n,c,L,i,a,b,x,p,q,r,⟨hl,hi,_⟩,h⟩=>
  have hin:i=n:=by
   have:=congrArg List.length hl
   have hn:=h.row.len
   simp at this
   omega
  subst hin
  exact .inl ⟨A,i,c,d,0,a,b,x,p,q,r,h.box,h.len,h.row.cap.1,h.row.cap.2,fun _ _ _ h=> by injection h with h;injection h with _ h;cases h⟩
 | some (d,t::l),⟨A,n,c,L,i,a,b,x,p,q,r,⟨hl,_,_⟩,h⟩=>
  obtain ⟨hi,e1,_⟩:=drop_cons hl
  exact .inr ⟨d,t,l,A,n,c,L,i,a,b,x,p,q,r,rfl,h,hi,e1⟩
def XQ (σ σ':Sg)(w wx:World)(V:Value):Prop:= ∀d' r',σ'=some (d',r')→∃d l x A c p q z,(σ=some (d,l)∧d'=d∧r'.length < l.length)∧(V=exX x A c p q z∧∃S,ExAt wx S x A c∧In (w.heap.size+1) wx S)∧okX x∧W 1 (toksX x 7)+W 1 r'≤W 1 l
theorem XQ.leaf {σ σ':Sg}{w wx:World}{x:Ex}{p q z:Int}(hx:parts x=[])(h: ∀d' r',σ'=some (d',r')→∃d l,(σ=some (d,l)∧d'=d∧r'.length < l.length)∧okX x∧W 1 (toksX x 7)+W 1 r'≤W 1 l):XQ σ σ' w wx (exX x none 0 p q z):=fun d' r' e=> by
 obtain ⟨d,l,h1,h2,h3⟩:=h d' r' e
 exact ⟨d,l,x,none,0,p,q,z,h1,⟨rfl,fun _=> False,⟨⟨[],by rw [hx];exact Row.nil_,by rw [hx];rfl⟩⟩,fun _ h=> h.elim⟩,h2,h3⟩
theorem XQ.fin {g:Nat}{σ σ':Sg}{w W wz:World}{V:Value}{p:World→Prop}(X:XQ σ σ' w W V)(F:Fr g [g] w W σ' p)(hlt:g < w.heap.size)(m:Mod [w.heap.size] W wz)(hV:VX V):XR 7 0 σ g w (.returned V) wz:=by
 have hs:=F.m.size
 refine ⟨V,σ',rfl,hV,F.s.keep fun j hj=> m.block j (by omega) (by simp;omega),F.m.trans m (fun x hx=> .inr (by simp at hx;omega)),?_⟩
 cases σ' with
 | none=> trivial
 | some y=>
  obtain ⟨d,l,x,A,c,p,q,z,h1,⟨h2,S,h3,h4⟩,h5,h6⟩:=X y.1 y.2 rfl
  exact ⟨d,l,x,A,c,p,q,z,S,h1,⟨h2,h3.keep fun b hb=> m.block b (h4 b hb).2 (by have:=(h4 b hb).1;simp;omega),fun b hb=> ⟨by have:=(h4 b hb).1;omega,Nat.lt_of_lt_of_le (h4 b hb).2 m.size⟩⟩,h5,by omega⟩
theorem f_operand (f:Nat)(HE:ExprC f):OperandC (f+1):=by
 intro σ w g h hm
 have HE:=Lib.hid HE
 have hlt:=h.lt
 go_enter Tryz.func179,Tryz.ntmps179
 go_upto_region 1 with fail
 have F1:Hid (Fr g [g] w (w.alloc zExO) σ (fun V=> V.heap[w.heap.size]? =some zExB)):=Lib.hid ⟨by simp,fun _ _ m h=> m.box h (by simp;omega),(Mod.refl _ _).alloc _,h.next ((Below.refl _ _).alloc (Nat.le_refl _) _),alloc_at rfl⟩
 obtain ⟨w1,hw⟩: ∃W,w.alloc zExO=W:=⟨_,rfl⟩
 rw [hw]at F1
 rw [hw]
 clear hw h
 go_wp2_with fail
 refine (Fr.here F1).mono ?_;rintro e w2 ⟨⟨pp,pq,pr,rfl⟩,F2⟩
 have hz2:=F2.out.m.size
 have hz22:w.heap.size < w2.heap.size:=(Array.getElem?_eq_some_iff.1 F2.out.p).1
 go_upto_region 2 with fail
 have F3:=F2.out.box (k:=exO 0 0 0 [] [] [] 0 (.slice none 0 0) pp pq pr) rfl (fun V=> V.heap[w.heap.size]? =some zExB) (fun _ _ m h=> m.box h (by simp;omega)) ((Below.heap_alloc _ _ _ hz22).trans F2.out.p)
 obtain ⟨w3,hw⟩: ∃W,w2.alloc (exO 0 0 0 [] [] [] 0 (.slice none 0 0) pp pq pr)=W:=⟨_,rfl⟩
 rw [hw]at F3
 rw [hw]
 clear hw F1 F2
 go_cut [44] (fun v wx=> v= .bool (litS σ)∧Hid (Fr g [g] w wx σ (Bx g w2.heap.size (exB 0 0 0 [] [] [] 0 (.slice none 0 0) pp pq pr) (fun V=> V.heap[w.heap.size]? =some zExB))))
 case first=>
  have F4:=F3.out.next (Below.refl _ _).drew
  rcases F3.out.s.view with ⟨A,n,c,d,e,a,b,x,p,q,r,hbox,hn,hc1,hc2,hno⟩ | ⟨d,t,l,A,n,c,L,i,a,b,x,p,q,r,rfl,hr,hi,ht⟩
  ·have HB:=Lib.hid hbox
   have hl:litS σ=false:=by
    match σ,hno with
    | none,_=> rfl
    | some (_,[]),_=> rfl
    | some (d,t::l),h=> exact absurd rfl (h d t l)
   have HL:=Lib.hid hl
   clear hbox hno hl
   refine wp_region_sched [(0,true),(1,true),(2,true),(3,true),(4,true),(5,true),(6,true),(7,true),(8,true),(9,true),(10,true),(11,true),(12,true),(13,true),(14,true),(15,true),(16,true),(17,true),(18,true),(19,true),(20,true),(21,true),(22,true),(23,true),(24,true),(25,true),(26,true),(27,true),(28,true),(29,true),(30,true),(31,true),(32,true),(33,true),(34,true),(35,true),(36,true),(37,true)] (by kernel_rfl) (by kernel_rfl) (fun _ _ d _ _ h=> by cases d <;> exact h) ?_
   refine swith (fun W hW=> (cells10 (box_next HB.out ((Below.refl _ _).drew.trans hW.out)))) (fun qx=> ?_)
   repeat (first | (refine srE ?_;simp only [Act.put,sA,sB,sC]) | (refine skE ?_;simp only [Act.put,sA,sB,sC]))
   refine sdone ?_
   go_wp2_with fail
   go_meet
   exact ⟨by rw [HL.out],F4⟩
  ·have HB:=Lib.hid hr.box
   have hcap:=hr.row.cap
   have hn:=hr.len
   have hin:i < n:=by have:=hr.row.len;omega
   obtain ⟨tb,off,tp,tq,tr,rfl,hb,hc⟩:=hr.tk hi
   rw [ht]at hc
   have HC:=Lib.hid hc
   have hii:(i:Int) < (n:Int):=by omega
   have hnn: ¬n≤i:=by omega
   clear hc hr ht hi L
   by_cases h2:t.1=2
   ·have d1:(t.1==2)=true:=by simp [h2]
    have hl:litS (some (d,t::l))=true:=by simp [litS,h2]
    have HL:=Lib.hid hl
    clear h2 hl
    refine wp_region_sched [(0,true),(1,true),(2,true),(3,true),(4,true),(5,true),(6,true),(7,true),(8,true),(9,true),(10,true),(11,true),(12,true),(13,true),(14,true),(15,true),(16,true),(17,true),(18,true),(19,true),(20,true),(21,true),(22,true),(23,true),(24,true),(25,true),(26,true),(27,true),(28,true),(29,true),(30,true),(31,true),(32,true),(33,true),(34,true),(35,true),(36,true),(37,true)] (by kernel_rfl) (by kernel_rfl) (fun _ _ d _ _ h=> by cases d <;> exact h) ?_
    refine swith (fun W hW=> (cells10 (box_next HB.out ((Below.refl _ _).drew.trans hW.out)))) (fun qx=> ?_)
    refine swith (fun W hW=> (HC.out W ((Below.refl _ _).drew.trans hW.out))) (fun qt=> ?_)
    repeat (first | (refine srE ?_;simp only [Act.put,sA,sB,sC]) | (refine skE ?_;simp only [Act.put,sA,sB,sC]))
    refine sdone ?_
    go_wp2_with fail
    go_meet
    exact ⟨by rw [HL.out],F4⟩
   ·have d1:(t.1==2)=false:=by simp [h2]
    obtain ⟨bv,hbv⟩: ∃v,(t.1==3)=v:=⟨_,rfl⟩
    have hl:litS (some (d,t::l))=bv:=by rw [← hbv];simp only [litS,h2];by_cases h3:t.1=3 <;> simp [h3]
    have HL:=Lib.hid hl
    clear h2 hl
    refine wp_region_sched [(0,true),(1,true),(2,true),(3,true),(4,true),(5,true),(6,true),(7,true),(8,true),(9,true),(10,true),(11,true),(12,true),(13,true),(14,true),(15,true),(16,true),(17,true),(18,true),(19,true),(20,true),(21,true),(22,true),(23,true),(24,true),(25,true),(26,true),(27,true),(28,true),(29,true),(30,true),(31,true),(32,true),(33,true),(34,true),(35,true),(36,true),(37,true)] (by kernel_rfl) (by kernel_rfl) (fun _ _ d _ _ h=> by cases d <;> exact h) ?_
    refine swith (fun W hW=> (cells10 (box_next HB.out ((Below.refl _ _).drew.trans hW.out)))) (fun qx=> ?_)
    refine swith (fun W hW=> (HC.out W ((Below.refl _ _).drew.trans hW.out))) (fun qt=> ?_)
    repeat (first | (refine srE ?_;simp only [Act.put,sA,sB,sC]) | (refine skE ?_;simp only [Act.put,sA,sB,sC]))
    refine sdone ?_
    go_wp2_with fail
    go_meet
    exact ⟨by rw [HL.out],F4⟩
 case rest=>
  clear F3
  obtain ⟨rfl,F4⟩:=hcut
  cases hl:litS σ with
  | true=>
   obtain ⟨d,t,l,rfl,hk⟩: ∃d t l,σ=some (d,t::l)∧(t.1=2∨t.1=3):=by
    match σ,hl with
    | some (d,t::l),h=> exact ⟨d,t,l,rfl,by simpa [litS]using h⟩
   have HK:=Lib.hid hk
   obtain ⟨w4,hw⟩: ∃W,wc=W:=⟨_,rfl⟩
   rw [hw]at F4
   rw [hw]
   clear hw hl hk
   obtain ⟨⟨⟨⟨x0,x1⟩,x2,x3⟩,⟨x4,x5⟩,x6,x7⟩,⟨x8,x9⟩,x10⟩:=cells11 F4.out.p.x
   obtain ⟨⟨⟨⟨f0,f1⟩,f2,f3⟩,⟨f4,f5⟩,f6,f7⟩,⟨f8,f9⟩,f10⟩:=frozen11 F4.out.p.x
   go_upto_region 4 with fail
   clear x0 x1 x2 x3 x4 x5 x6 x7 x8 x9 x10 f0 f1 f2 f3 f4 f5 f6 f7 f8 f9 f10
   have F5:Hid (Fr g [g] w _ _ (Bx g w2.heap.size (exB 1 0 0 [] [] [] 0 (.slice none 0 0) pp pq pr) _)):=F4.out.set 0 (nv 1) (.inr hz2) rfl
   obtain ⟨w5,hw⟩: ∃W,w4.setCell ⟨w2.heap.size,0,none⟩ (nv 1)=W:=⟨_,rfl⟩
   rw [hw]at F5
   first | rw [hw] | (simp only [nv,sv]at hw;rw [hw])
   clear hw F4
   rcases F5.out.s.view with ⟨A,n,c,d,e,a,b,x,p,q,r,hbox,hn,hc1,hc2,hno⟩ | ⟨d',t',l',A,n,c,L,i,a,b,x,p,q,r,he,hr,hi,ht⟩
   ·exact absurd rfl (hno _ _ _)
   injection he with he
   injection he with e1 he
   injection he with e2 e3
   subst e1 e2 e3
   have hzt:TokZ t:=F5.out.s.z.1 t (by simp)
   have HB:=Lib.hid hr.box
   have hcap:=hr.row.cap
   have hn:=hr.len
   have hin:i < n:=by have:=hr.row.len;omega
   obtain ⟨tb,off,tp,tq,tr,rfl,hb,hc⟩:=hr.tk hi
   rw [ht]at hc
   have HC:=Lib.hid (hc _ (Below.refl _ w5).drew).1.2
   have hii:(i:Int) < (n:Int):=by omega
   have HT:Hid (tb < w.heap.size):=Lib.hid (by
    obtain ⟨b',off',_,_,_,e,hb',_⟩:=hr.row.at_ hi
    injection e with e
    injection e with e
    omega)
   have HZ:=Lib.hid hzt
   clear hc hr ht hi L hb hzt
   refine wp_region_Z [] [g,tb] (.read 0 (.read 1 (.read 2 (.read 3 (.read 4 (.read 5 (.read 6 (.read 7 (.read 8 (.read 9 (.read 10 (.read 11 (.call 12 .done))))))))))))) (by kernel_rfl) (by kernel_rfl) (fun _ _ d _ _ h=> by cases d <;> exact h) ?_
   refine zwith (fun W hW=> cells10 ((hW g (by simp)).trans HB.out)) (fun qx=> ?_)
   refine zwith (fun W hW=> show W.cell? ⟨tb,off+i * 8+2,none⟩=some (nv t.2.2.k)∧W.cell? ⟨tb,off+i * 8+3,none⟩=some (nv t.2.2.n)∧W.cell? ⟨tb,off+i * 8+4,none⟩=some (sv t.2.2.s) from ⟨(World.cell?_of_block (a:=⟨tb,off+i * 8+2,none⟩) (hW tb (by simp))).trans HC.out.1,(World.cell?_of_block (a:=⟨tb,off+i * 8+3,none⟩) (hW tb (by simp))).trans HC.out.2.1,(World.cell?_of_block (a:=⟨tb,off+i * 8+4,none⟩) (hW tb (by simp))).trans HC.out.2.2⟩) (fun qt=> ?_)
   repeat (refine zrE ?_;simp only [Act.put,sA,sB,sC])
   clear qx qt
   refine zcall rfl rfl (fun K hK=> ?_)
   have F6:=F5.out.next (Below.refl _ _).drew
   obtain ⟨w6,hw⟩: ∃W,w5.drew=W:=⟨_,rfl⟩
   rw [hw]at F6
   have HD:Hid (w5.drew.heap=w6.heap):=Lib.hid (by rw [hw])
   rw [hw]
   clear hw F5
   obtain ⟨⟨⟨⟨x0,x1⟩,x2,x3⟩,⟨x4,x5⟩,x6,x7⟩,⟨x8,x9⟩,x10⟩:=cells11 F6.out.p.x
   obtain ⟨⟨⟨⟨f0,f1⟩,f2,f3⟩,⟨f4,f5⟩,f6,f7⟩,⟨f8,f9⟩,f10⟩:=frozen11 F6.out.p.x
   go_simp
   have hne:w2.heap.size≠g∧w2.heap.size≠tb:=by have:=HT.out;omega
   refine hK.out _ _ (fun b' hb=> ?_) ?_
   ·simp at hb
    rw [Below.heap_setCell _ _ _ _ (by simp only;omega),Below.heap_setCell _ _ _ _ (by simp only;omega),Below.heap_setCell _ _ _ _ (by simp only;omega),HD.out]
   clear hK K
   clear x0 x1 x2 x3 x4 x5 x6 x7 x8 x9 x10 f0 f1 f2 f3 f4 f5 f6 f7 f8 f9 f10
   try simp only [Act.put,sA,sB,sC]
   refine zdone ?_
   have F7:Hid (Fr g [g] w _ _ (Bx g w2.heap.size (exB 1 t.2.2.k t.2.2.n t.2.2.s [] [] 0 (.slice none 0 0) pp pq pr) _)):=((F6.out.set 1 (nv t.2.2.k) (.inr hz2) rfl).out.set 2 (nv t.2.2.n) (.inr hz2) rfl).out.set 3 (sv t.2.2.s) (.inr hz2) rfl
   obtain ⟨w7,hw⟩: ∃W,((w6.setCell ⟨w2.heap.size,1,none⟩ (nv t.2.2.k)).setCell ⟨w2.heap.size,2,none⟩ (nv t.2.2.n)).setCell ⟨w2.heap.size,3,none⟩ (sv t.2.2.s)=W:=⟨_,rfl⟩
   rw [hw]at F7
   first | rw [hw] | (simp only [nv,sv]at hw;rw [hw])
   clear hw F6
   obtain ⟨QA,qn,qc,i0,qa,qb,qx,qy,qz,qr,hbox,hi0,F8⟩:=F7.out.inc
   obtain ⟨⟨⟨c0,c1⟩,c2,c3⟩,⟨⟨c4,c5⟩,c6,c7⟩,c8,c9⟩:=cells10 hbox
   obtain ⟨⟨⟨g0,g1⟩,g2,g3⟩,⟨⟨g4,g5⟩,g6,g7⟩,g8,g9⟩:=frozen10 hbox
   clear hbox
   go_upto_region 6 with fail
   clear c0 c1 c2 c3 c4 c5 c6 c7 c8 c9 g0 g1 g2 g3 g4 g5 g6 g7 g8 g9 F7
   obtain ⟨w8,hw⟩: ∃W,w7.setCell ⟨g,1,none⟩ (nv ((i0:Int)+1))=W:=⟨_,rfl⟩
   rw [hw]at F8
   rw [hw]
   clear hw hi0
   obtain ⟨⟨⟨⟨x0,x1⟩,x2,x3⟩,⟨x4,x5⟩,x6,x7⟩,⟨x8,x9⟩,x10⟩:=cells11 F8.out.p.x
   obtain ⟨⟨⟨⟨z0,z1⟩,z2,z3⟩,⟨z4,z5⟩,z6,z7⟩,⟨z8,z9⟩,z10⟩:=cells11 F8.out.p.q
   obtain ⟨⟨⟨⟨v0,v1⟩,v2,v3⟩,⟨v4,v5⟩,v6,v7⟩,⟨v8,v9⟩,v10⟩:=frozen11 F8.out.p.q
   go_wp2_with fail
   clear x0 x1 x2 x3 x4 x5 x6 x7 x8 x9 x10 z0 z1 z2 z3 z4 z5 z6 z7 z8 z9 z10 v0 v1 v2 v3 v4 v5 v6 v7 v8 v9 v10
   have X3:(set11 w8 w.heap.size (nv 1) (nv t.2.2.k) (nv t.2.2.n) (sv t.2.2.s) (sv []) (sv []) (nv 0) (.slice none 0 0) (nv pp) (nv pq) (nv pr)).heap[w.heap.size]? =some (.cells #[nv 1,nv t.2.2.k,nv t.2.2.n,sv t.2.2.s,sv [],sv [],nv 0,.slice none 0 0,nv pp,nv pq,nv pr] 59 (0,0)):=set11_box (vs:=[nv 0,nv 0,nv 0,sv [],sv [],sv [],nv 0,.slice none 0 0,nv 0,nv 0,nv 0]) F8.out.p.q rfl
   have M3:Mod [w.heap.size] w8 (set11 w8 w.heap.size (nv 1) (nv t.2.2.k) (nv t.2.2.n) (sv t.2.2.s) (sv []) (sv []) (nv 0) (.slice none 0 0) (nv pp) (nv pq) (nv pr)):=set11_mod
   obtain ⟨wz,hwz⟩: ∃W,set11 w8 w.heap.size (nv 1) (nv t.2.2.k) (nv t.2.2.n) (sv t.2.2.s) (sv []) (sv []) (nv 0) (.slice none 0 0) (nv pp) (nv pq) (nv pr)=W:=⟨_,rfl⟩
   rw [hwz]at X3 M3
   unfold set11 at hwz
   first | rw [hwz] | (simp only [nv,sv]at hwz;rw [hwz])
   clear hwz
   obtain ⟨⟨⟨⟨y0,y1⟩,y2,y3⟩,⟨y4,y5⟩,y6,y7⟩,⟨y8,y9⟩,y10⟩:=cells11 X3
   refine bodyPost_ret (v:=exVal 1 t.2.2.k t.2.2.n t.2.2.s [] [] 0 (.slice none 0 0) pp pq pr) (by simp [results,Tryz.results179,go_sem,y0,y1,y2,y3,y4,y5,y6,y7,y8,y9,y10]) rfl ?_
   have hlit:pLit [t]=some t.2.2:=by
    unfold pLit
    have:=HK.out
    simp only
    rw [if_neg (by omega),if_neg (by omega),if_pos this]
   have hz:AllZ [t]:=fun x hx=> by simp at hx;rw [hx];exact HZ.out
   have h1:=lit_snd hz.w hlit
   have h2:=lit_wt (e:=1) hz hlit
   refine (XQ.leaf (x:= .val t.2.2) rfl fun d' r' e=> ?_).fin F8.out hlt M3 ⟨_,_,_,_,_,_,_,_,_,_,_,_,_,rfl⟩
   injection e with e
   injection e with e1 e2
   subst e1 e2
   refine ⟨d,t::l,⟨rfl,rfl,by simp⟩,h1.1,?_⟩
   rw [toksX_no (by simp [lvlX]),toks0]
   simp only [W_cons,W_nil,List.tail_cons]at h2⊢
   omega
  | false=>
   go_wp2_with fail
   refine (Fr.text F4).mono ?_;rintro e w4 ⟨rfl,F5⟩
   obtain ⟨tx,htx⟩: ∃s,txS σ=s:=⟨_,rfl⟩
   have HTX:=Lib.hid htx
   rw [htx]
   clear F4 htx hl
   go_upto_block 0 with fail
   go_cut [68] (fun _ wx=> ∃(k vk vn:Int) (vs nm cc:List UInt8) (o:Int) (A:Option Addr) (m c:Nat) (p q r:Int) (σ':Sg),Hid (Fr g [g] w wx σ' (Bx g w2.heap.size (exB k vk vn vs nm cc o (.slice A m c) p q r) (fun V=> V.heap[w.heap.size]? =some zExB)))∧Hid (XQ σ σ' w wx (exVal k vk vn vs nm cc o (.slice A m c) p q r)))
   case rest=>
    obtain ⟨k,vk,vn,vs,nm,cc,o,A,m,c,p,q,r,σ',F6,X6⟩:=hcut
    clear F5
    obtain ⟨w6,hw⟩: ∃W,wc=W:=⟨_,rfl⟩
    rw [hw]at F6 X6
    rw [hw]
    clear hw
    obtain ⟨⟨⟨⟨x0,x1⟩,x2,x3⟩,⟨x4,x5⟩,x6,x7⟩,⟨x8,x9⟩,x10⟩:=cells11 F6.out.p.x
    obtain ⟨⟨⟨⟨z0,z1⟩,z2,z3⟩,⟨z4,z5⟩,z6,z7⟩,⟨z8,z9⟩,z10⟩:=cells11 F6.out.p.q
    obtain ⟨⟨⟨⟨v0,v1⟩,v2,v3⟩,⟨v4,v5⟩,v6,v7⟩,⟨v8,v9⟩,v10⟩:=frozen11 F6.out.p.q
    go_wp2_with fail
    clear x0 x1 x2 x3 x4 x5 x6 x7 x8 x9 x10 z0 z1 z2 z3 z4 z5 z6 z7 z8 z9 z10 v0 v1 v2 v3 v4 v5 v6 v7 v8 v9 v10
    have X3:(set11 w6 w.heap.size (nv k) (nv vk) (nv vn) (sv vs) (sv nm) (sv cc) (nv o) (.slice A m c) (nv p) (nv q) (nv r)).heap[w.heap.size]? =some (.cells #[nv k,nv vk,nv vn,sv vs,sv nm,sv cc,nv o,.slice A m c,nv p,nv q,nv r] 59 (0,0)):=set11_box (vs:=[nv 0,nv 0,nv 0,sv [],sv [],sv [],nv 0,.slice none 0 0,nv 0,nv 0,nv 0]) F6.out.p.q rfl
    have M3:Mod [w.heap.size] w6 (set11 w6 w.heap.size (nv k) (nv vk) (nv vn) (sv vs) (sv nm) (sv cc) (nv o) (.slice A m c) (nv p) (nv q) (nv r)):=set11_mod
    obtain ⟨wz,hwz⟩: ∃W,set11 w6 w.heap.size (nv k) (nv vk) (nv vn) (sv vs) (sv nm) (sv cc) (nv o) (.slice A m c) (nv p) (nv q) (nv r)=W:=⟨_,rfl⟩
    rw [hwz]at X3 M3
    unfold set11 at hwz
    first | rw [hwz] | (simp only [nv,sv]at hwz;rw [hwz])
    clear hwz
    obtain ⟨⟨⟨⟨y0,y1⟩,y2,y3⟩,⟨y4,y5⟩,y6,y7⟩,⟨y8,y9⟩,y10⟩:=cells11 X3
    refine bodyPost_ret (v:=exVal k vk vn vs nm cc o (.slice A m c) p q r) (by simp [results,Tryz.results179,go_sem,y0,y1,y2,y3,y4,y5,y6,y7,y8,y9,y10]) rfl ?_
    exact X6.out.fin F6.out hlt M3 ⟨_,_,_,_,_,_,_,_,_,_,_,_,_,rfl⟩
   case first=>
    by_cases h1:tx=[116,114,117,101]
    ·have s1:(tx==[116,114,117,101])=true:=by simpa using h1
     obtain ⟨d,t,l,rfl,hts⟩:=txS_pos (HTX.out.trans h1) (by simp)
     have HT:=Lib.hid hts
     clear hts h1
     obtain ⟨⟨⟨⟨x0,x1⟩,x2,x3⟩,⟨x4,x5⟩,x6,x7⟩,⟨x8,x9⟩,x10⟩:=cells11 F5.out.p.x
     obtain ⟨⟨⟨⟨f0,f1⟩,f2,f3⟩,⟨f4,f5⟩,f6,f7⟩,⟨f8,f9⟩,f10⟩:=frozen11 F5.out.p.x
     go_upto_region 19 with fail
     clear x0 x1 x2 x3 x4 x5 x6 x7 x8 x9 x10 f0 f1 f2 f3 f4 f5 f6 f7 f8 f9 f10
     have F6:Hid (Fr g [g] w _ _ (Bx g w2.heap.size (exB 1 2 0 [] [] [] 0 (.slice none 0 0) pp pq pr) _)):=(F5.out.set 0 (nv 1) (.inr hz2) rfl).out.set 1 (nv 2) (.inr hz2) rfl
     obtain ⟨w6,hw⟩: ∃W,(w4.setCell ⟨w2.heap.size,0,none⟩ (nv 1)).setCell ⟨w2.heap.size,1,none⟩ (nv 2)=W:=⟨_,rfl⟩
     rw [hw]at F6
     first | rw [hw] | (simp only [nv,sv]at hw;rw [hw])
     clear hw F5
     go_wp2_with fail
     refine (Fr.text F6).mono ?_;rintro e w7 ⟨rfl,F7⟩
     rw [HTX.out]
     clear F6
     obtain ⟨⟨⟨⟨x0,x1⟩,x2,x3⟩,⟨x4,x5⟩,x6,x7⟩,⟨x8,x9⟩,x10⟩:=cells11 F7.out.p.x
     obtain ⟨⟨⟨⟨f0,f1⟩,f2,f3⟩,⟨f4,f5⟩,f6,f7⟩,⟨f8,f9⟩,f10⟩:=frozen11 F7.out.p.x
     go_upto_region 21 with fail
     clear x0 x1 x2 x3 x4 x5 x6 x7 x8 x9 x10 f0 f1 f2 f3 f4 f5 f6 f7 f8 f9 f10
     have F8:Hid (Fr g [g] w _ _ (Bx g w2.heap.size (exB 1 2 1 [] [] [] 0 (.slice none 0 0) pp pq pr) _)):=F7.out.set 2 (nv 1) (.inr hz2) rfl
     obtain ⟨w8,hw⟩: ∃W,w7.setCell ⟨w2.heap.size,2,none⟩ (nv 1)=W:=⟨_,rfl⟩
     rw [hw]at F8
     first | rw [hw] | (simp only [nv,sv]at hw;rw [hw])
     clear hw F7
     obtain ⟨QA,qn,qc,i0,qa,qb,qx,qy,qz,qr,hbox,hi0,F9⟩:=F8.out.inc
     obtain ⟨⟨⟨c0,c1⟩,c2,c3⟩,⟨⟨c4,c5⟩,c6,c7⟩,c8,c9⟩:=cells10 hbox
     obtain ⟨⟨⟨g0,g1⟩,g2,g3⟩,⟨⟨g4,g5⟩,g6,g7⟩,g8,g9⟩:=frozen10 hbox
     clear hbox
     go_upto_region 21 with fail;go_wp2_with fail
     clear c0 c1 c2 c3 c4 c5 c6 c7 c8 c9 g0 g1 g2 g3 g4 g5 g6 g7 g8 g9 F8
     obtain ⟨w9,hw⟩: ∃W,w8.setCell ⟨g,1,none⟩ (nv ((i0:Int)+1))=W:=⟨_,rfl⟩
     rw [hw]at F9
     rw [hw]
     clear hw hi0
     go_meet
     refine ⟨1,2,1,[],[],[],0,none,0,0,pp,pq,pr,_,F9,Lib.hid (XQ.leaf (x:= .val ⟨2,1,[]⟩) rfl fun d' r' e=> ?_)⟩
     injection e with e
     injection e with e1 e2
     subst e1 e2
     have hw1:=(tkT_W HT.out (by simp)).1
     refine ⟨d,t::l,⟨rfl,rfl,by simp⟩,⟨by decide,fun h=> by simp at h⟩,?_⟩
     rw [toksX_no (by simp [lvlX]),toks0,W_cons,W_cons,W_nil,hw1]
     simp [tv,cw,tw,w_true]
    ·have s1:(tx==[116,114,117,101])=false:=by simpa using h1
     clear h1
     by_cases h2:tx=[102,97,108,115,101]
     ·have s2:(tx==[102,97,108,115,101])=true:=by simpa using h2
      obtain ⟨d,t,l,rfl,hts⟩:=txS_pos (HTX.out.trans h2) (by simp)
      have HT:=Lib.hid hts
      clear hts h2
      obtain ⟨⟨⟨⟨x0,x1⟩,x2,x3⟩,⟨x4,x5⟩,x6,x7⟩,⟨x8,x9⟩,x10⟩:=cells11 F5.out.p.x
      obtain ⟨⟨⟨⟨f0,f1⟩,f2,f3⟩,⟨f4,f5⟩,f6,f7⟩,⟨f8,f9⟩,f10⟩:=frozen11 F5.out.p.x
      go_upto_region 19 with fail
      clear x0 x1 x2 x3 x4 x5 x6 x7 x8 x9 x10 f0 f1 f2 f3 f4 f5 f6 f7 f8 f9 f10
      have F6:Hid (Fr g [g] w _ _ (Bx g w2.heap.size (exB 1 2 0 [] [] [] 0 (.slice none 0 0) pp pq pr) _)):=(F5.out.set 0 (nv 1) (.inr hz2) rfl).out.set 1 (nv 2) (.inr hz2) rfl
      obtain ⟨w6,hw⟩: ∃W,(w4.setCell ⟨w2.heap.size,0,none⟩ (nv 1)).setCell ⟨w2.heap.size,1,none⟩ (nv 2)=W:=⟨_,rfl⟩
      rw [hw]at F6
      first | rw [hw] | (simp only [nv,sv]at hw;rw [hw])
      clear hw F5
      go_wp2_with fail
      refine (Fr.text F6).mono ?_;rintro e w7 ⟨rfl,F7⟩
      rw [HTX.out]
      clear F6
      obtain ⟨QA,qn,qc,i0,qa,qb,qx,qy,qz,qr,hbox,hi0,F9⟩:=F7.out.inc
      obtain ⟨⟨⟨c0,c1⟩,c2,c3⟩,⟨⟨c4,c5⟩,c6,c7⟩,c8,c9⟩:=cells10 hbox
      obtain ⟨⟨⟨g0,g1⟩,g2,g3⟩,⟨⟨g4,g5⟩,g6,g7⟩,g8,g9⟩:=frozen10 hbox
      clear hbox
      go_upto_region 21 with fail;go_wp2_with fail
      clear c0 c1 c2 c3 c4 c5 c6 c7 c8 c9 g0 g1 g2 g3 g4 g5 g6 g7 g8 g9 F7
      obtain ⟨w9,hw⟩: ∃W,w7.setCell ⟨g,1,none⟩ (nv ((i0:Int)+1))=W:=⟨_,rfl⟩
      rw [hw]at F9
      rw [hw]
      clear hw hi0
      go_meet
      refine ⟨1,2,0,[],[],[],0,none,0,0,pp,pq,pr,_,F9,Lib.hid (XQ.leaf (x:= .val ⟨2,0,[]⟩) rfl fun d' r' e=> ?_)⟩
      injection e with e
      injection e with e1 e2
      subst e1 e2
      have hw1:=(tkT_W HT.out (by simp)).1
      refine ⟨d,t::l,⟨rfl,rfl,by simp⟩,⟨by decide,fun h=> by simp at h⟩,?_⟩
      rw [toksX_no (by simp [lvlX]),toks0,W_cons,W_cons,W_nil,hw1]
      simp [tv,cw,tw,w_false]
     ·have s2:(tx==[102,97,108,115,101])=false:=by simpa using h2
      clear h2
      by_cases h3:tx=[40]
      ·have s3:(tx==[40])=true:=by simpa using h3
       have hm0:10 * lenS σ≤f+1:=hm
       obtain ⟨d0,t0,l0,rfl,hts⟩:=txS_pos (HTX.out.trans h3) (by simp)
       clear h3 hts
       go_wp2_with fail
       refine (Fr.open_ F5 [40] (by simp)).mono ?_;rintro e w5 ⟨rfl,F6⟩
       have S6:Hid (∀d l,openS (some (d0,t0::l0)) [40]=some (d,l)→d=d0+1∧l=l0∧W 1 (t0::l0)=2+W 1 l):=Lib.hid fun d l he=> by
        obtain ⟨d1,t1,e1,e2,e3,_⟩:=openS_inv (by simp) he
        injection e1 with e1
        injection e1 with e1 e4
        injection e4 with e4 e5
        subst e1 e4 e5
        exact ⟨e2,rfl,e3⟩
       have hm6:10 * lenS (openS (some (d0,t0::l0)) [40])+7≤f:=by
        cases h:openS (some (d0,t0::l0)) [40]with
        | none=> simp [lenS]at hm0⊢;omega
        | some y=>
         obtain ⟨_,e,_⟩:=S6.out y.1 y.2 h
         simp [lenS]at hm0⊢
         rw [e]
         omega
       clear F5
       generalize openS (some (d0,t0::l0)) [40]=σ6 at *
       go_wp2_with fail
       refine (HE.out 1 σ6 w5 g (by omega) (by omega) F6.out.s hm6).mono ?_;rintro e w6 hx
       obtain ⟨ek,evk,evn,evs,enm,ecc,eo,eA,em,ec,ep,eq,er,σ7,y,rfl,h7,m7,X7⟩:=hx.tree
       have F7:=F6.out.mod m7 h7
       have HX:=Lib.hid X7
       have hb5:w2.heap.size < w5.heap.size:=(Array.getElem?_eq_some_iff.1 F6.out.p.x).1
       clear X7 hx h7 m7 F6
       obtain ⟨⟨⟨⟨x0,x1⟩,x2,x3⟩,⟨x4,x5⟩,x6,x7⟩,⟨x8,x9⟩,x10⟩:=cells11 F7.out.p.x
       obtain ⟨⟨⟨⟨f0,f1⟩,f2,f3⟩,⟨f4,f5⟩,f6,f7⟩,⟨f8,f9⟩,f10⟩:=frozen11 F7.out.p.x
       go_wp2_with fail
       clear x0 x1 x2 x3 x4 x5 x6 x7 x8 x9 x10 f0 f1 f2 f3 f4 f5 f6 f7 f8 f9 f10
       have F8:Hid (Fr g [g] w (set11 w6 w2.heap.size (nv ek) (nv evk) (nv evn) (sv evs) (sv enm) (sv ecc) (nv eo) (.slice eA em ec) (nv ep) (nv eq) (nv er)) σ7 (Bx g w2.heap.size (exB ek evk evn evs enm ecc eo (.slice eA em ec) ep eq er) (fun V=> V.heap[w.heap.size]? =some zExB∧TX (σ7≠none) (w2.heap.size+1) y (exL ek evk evn evs enm ecc eo eA em ec ep eq er) V))):=by
        have hn:=F7.out.p.ne
        have G:Hid (Fr g [g] w (set11 w6 w2.heap.size (nv ek) (nv evk) (nv evn) (sv evs) (sv enm) (sv ecc) (nv eo) (.slice eA em ec) (nv ep) (nv eq) (nv er)) σ7 (Bx g w2.heap.size (exB ek evk evn evs enm ecc eo (.slice eA em ec) ep eq er) (fun V=> V.heap[w.heap.size]? =some zExB))):=F7.out.turn set11_mod (.inr hz2) (set11_box (vs:=[nv 0,nv 0,nv 0,sv [],sv [],sv [],nv 0,.slice none 0 0,nv pp,nv pq,nv pr]) F7.out.p.x rfl)
        refine G.out.as (fun V V' m h=> ⟨m.box h.1 (by simp;omega),h.2.mod m (fun j hj=> by simp at hj;omega)⟩) ⟨G.out.p.q,?_⟩
        refine TX.mod (bs:=[w2.heap.size]) set11_mod (fun j hj=> by simp at hj;omega) fun hs=> ?_
        cases σ7 with
        | none=> exact absurd rfl hs
        | some v=>
         obtain ⟨_,_,_,⟨S,h1,h2⟩,_⟩:=HX.out v.1 v.2 rfl
         exact ⟨S,h1,h2.more (by omega)⟩
       obtain ⟨w7,hw⟩: ∃W,set11 w6 w2.heap.size (nv ek) (nv evk) (nv evn) (sv evs) (sv enm) (sv ecc) (nv eo) (.slice eA em ec) (nv ep) (nv eq) (nv er)=W:=⟨_,rfl⟩
       rw [hw]at F8
       unfold set11 at hw
       first | rw [hw] | (simp only [nv,sv]at hw;rw [hw])
       clear hw F7
       refine (Fr.shut F8 [41] (by simp) (fun d r e=> by obtain ⟨d1,l1,⟨h1,h2,_⟩,_⟩:=HX.out d r e;have:=(S6.out _ _ h1).1;omega)).mono ?_;rintro e w8 ⟨rfl,F9⟩
       clear F8
       go_wp2_with fail
       go_meet
       refine ⟨ek,evk,evn,evs,enm,ecc,eo,eA,em,ec,ep,eq,er,_,F9.out.as (fun _ _ m h=> m.box h (by simp;omega)) F9.out.p.q.1,Lib.hid fun d' r' e=> ?_⟩
       obtain ⟨d1,t1,e1,e2,e3⟩:=shutS_inv (by simp) e
       obtain ⟨d2,l2,⟨h1,h2,h3⟩,_,h4,h5⟩:=HX.out _ _ e1
       obtain ⟨h6,rfl,h7⟩:=S6.out _ _ h1
       obtain ⟨S,h8,h9⟩:=F9.out.p.q.2 (by rw [e1];simp)
       obtain ⟨A,c,p,q,z,h10,h11⟩:=ExAt.of h8
       have h12:=(W_br (e:=1) y 7 (toks0 y)).2
       have h13:=W_0 (e:=1) y 1
       refine ⟨d0,t0::l2,y,A,c,p,q,z,⟨rfl,by omega,by simp at h3⊢;omega⟩,⟨congrArg (fun l=> Value.agg (List.toArray l)) h10,S,h11,h9.more (by omega)⟩,h4,?_⟩
       rw [toksX]
       simp at e3 h7
       omega
      ·have s3:(tx==[40])=false:=by simpa using h3
       clear h3
       by_cases h4:tx=[104,97,115]
       ·have s4:(tx==[104,97,115])=true:=by simpa using h4
        go_wp2_with fail
        obtain ⟨d0,t0,l0,rfl,hts⟩:=txS_pos (HTX.out.trans h4) (by simp)
        refine (f_call f HE.out 4 1 (by omega) d0 t0 l0 w4 g w2.heap.size pp pq pr F5.out.s F5.out.p.ne F5.out.p.x (by simp [lenS]at hm;omega)).mono ?_;rintro e w5 ⟨nm,cc,A,k,c,a,xs,σ',rfl,G,X⟩
        have F6:=F5.out.call G.out (.inr hz2)
        have hw1:=(tkT_W hts (by simp)).1
        have hbl:=Fr.lt F5.out
        have hb4:w2.heap.size < w4.heap.size:=(Array.getElem?_eq_some_iff.1 F5.out.p.x).1
        have HX:=Lib.hid X
        have HW:=Lib.hid hw1
        clear X hw1 hts h4 F5
        go_wp2_with fail
        go_meet
        refine ⟨4,0,0,[],nm,cc,0,A,k,c,pp,pq,pr,σ',F6.out.as (fun _ _ m h=> m.box h (by simp;omega)) F6.out.p.q.1,Lib.hid fun d' r' e=> ?_⟩
        obtain ⟨⟨h1,h2⟩,x,h3,h4,h5,h6⟩:=HX.out d' r' e
        obtain ⟨S,hS,hI⟩:=G.out.p.q.at_ (by rw [e];simp) h4
        refine ⟨d0,t0::l0,x,A,c,pp,pq,pr,⟨rfl,h1,by simp;omega⟩,⟨h3,S,hS,hI.more (by omega)⟩,h5,?_⟩
        rw [W_cons,HW.out]
        simp at h6⊢
        omega
       ·have s4:(tx==[104,97,115])=false:=by simpa using h4
        clear h4
        by_cases h5:tx=[115,117,109]
        ·have s5:(tx==[115,117,109])=true:=by simpa using h5
         go_wp2_with fail
         obtain ⟨d0,t0,l0,rfl,hts⟩:=txS_pos (HTX.out.trans h5) (by simp)
         refine (f_call f HE.out 5 2 (by omega) d0 t0 l0 w4 g w2.heap.size pp pq pr F5.out.s F5.out.p.ne F5.out.p.x (by simp [lenS]at hm;omega)).mono ?_;rintro e w5 ⟨nm,cc,A,k,c,a,xs,σ',rfl,G,X⟩
         have F6:=F5.out.call G.out (.inr hz2)
         have hw1:=(tkT_W hts (by simp)).1
         have hbl:=Fr.lt F5.out
         have hb4:w2.heap.size < w4.heap.size:=(Array.getElem?_eq_some_iff.1 F5.out.p.x).1
         have HX:=Lib.hid X
         have HW:=Lib.hid hw1
         clear X hw1 hts h5 F5
         go_wp2_with fail
         go_meet
         refine ⟨5,0,0,[],nm,cc,0,A,k,c,pp,pq,pr,σ',F6.out.as (fun _ _ m h=> m.box h (by simp;omega)) F6.out.p.q.1,Lib.hid fun d' r' e=> ?_⟩
         obtain ⟨⟨h1,h2⟩,x,h3,h4,h5,h6⟩:=HX.out d' r' e
         obtain ⟨S,hS,hI⟩:=G.out.p.q.at_ (by rw [e];simp) h4
         refine ⟨d0,t0::l0,x,A,c,pp,pq,pr,⟨rfl,h1,by simp;omega⟩,⟨h3,S,hS,hI.more (by omega)⟩,h5,?_⟩
         rw [W_cons,HW.out]
         simp at h6⊢
         omega
        ·have s5:(tx==[115,117,109])=false:=by simpa using h5
         clear h5
         by_cases h6:tx=[99,111,117,110,116]
         ·have s6:(tx==[99,111,117,110,116])=true:=by simpa using h6
          go_wp2_with fail
          obtain ⟨d0,t0,l0,rfl,hts⟩:=txS_pos (HTX.out.trans h6) (by simp)
          refine (f_call f HE.out 6 2 (by omega) d0 t0 l0 w4 g w2.heap.size pp pq pr F5.out.s F5.out.p.ne F5.out.p.x (by simp [lenS]at hm;omega)).mono ?_;rintro e w5 ⟨nm,cc,A,k,c,a,xs,σ',rfl,G,X⟩
          have F6:=F5.out.call G.out (.inr hz2)
          have hw1:=(tkT_W hts (by simp)).1
          have hbl:=Fr.lt F5.out
          have hb4:w2.heap.size < w4.heap.size:=(Array.getElem?_eq_some_iff.1 F5.out.p.x).1
          have HX:=Lib.hid X
          have HW:=Lib.hid hw1
          clear X hw1 hts h6 F5
          go_wp2_with fail
          go_meet
          refine ⟨6,0,0,[],nm,cc,0,A,k,c,pp,pq,pr,σ',F6.out.as (fun _ _ m h=> m.box h (by simp;omega)) F6.out.p.q.1,Lib.hid fun d' r' e=> ?_⟩
          obtain ⟨⟨h1,h2⟩,x,h3,h4,h5,h6⟩:=HX.out d' r' e
          obtain ⟨S,hS,hI⟩:=G.out.p.q.at_ (by rw [e];simp) h4
          refine ⟨d0,t0::l0,x,A,c,pp,pq,pr,⟨rfl,h1,by simp;omega⟩,⟨h3,S,hS,hI.more (by omega)⟩,h5,?_⟩
          rw [W_cons,HW.out]
          simp at h6⊢
          omega
         ·have s6:(tx==[99,111,117,110,116])=false:=by simpa using h6
          clear h6 HTX
          obtain ⟨⟨⟨⟨x0,x1⟩,x2,x3⟩,⟨x4,x5⟩,x6,x7⟩,⟨x8,x9⟩,x10⟩:=cells11 F5.out.p.x
          obtain ⟨⟨⟨⟨f0,f1⟩,f2,f3⟩,⟨f4,f5⟩,f6,f7⟩,⟨f8,f9⟩,f10⟩:=frozen11 F5.out.p.x
          go_upto_region 9 with fail
          clear x0 x1 x2 x3 x4 x5 x6 x7 x8 x9 x10 f0 f1 f2 f3 f4 f5 f6 f7 f8 f9 f10
          have F6:Hid (Fr g [g] w _ _ (Bx g w2.heap.size (exB 2 0 0 [] [] [] 0 (.slice none 0 0) pp pq pr) _)):=F5.out.set 0 (nv 2) (.inr hz2) rfl
          obtain ⟨w5,hw⟩: ∃W,w4.setCell ⟨w2.heap.size,0,none⟩ (nv 2)=W:=⟨_,rfl⟩
          rw [hw]at F6
          first | rw [hw] | (simp only [nv,sv]at hw;rw [hw])
          clear hw F5
          go_wp2_with fail
          refine (Fr.name F6).mono ?_;rintro e w6 ⟨rfl,F7⟩
          have SN:Hid (∀d r,nmA σ=some (d,r)→∃t,σ=some (d,t::r)∧W 1 (t::r)=(nameS σ).length+1+W 1 r∧isNameL (nameS σ)=true):=Lib.hid fun d r he=> nmA_inv he
          have hm7:10 * lenS (nmA σ)≤f+2:=by have:=lenS_nmA σ;omega
          clear F6
          generalize nmA σ=σ7 at *
          generalize nameS σ=nm at *
          obtain ⟨⟨⟨⟨x0,x1⟩,x2,x3⟩,⟨x4,x5⟩,x6,x7⟩,⟨x8,x9⟩,x10⟩:=cells11 F7.out.p.x
          obtain ⟨⟨⟨⟨f0,f1⟩,f2,f3⟩,⟨f4,f5⟩,f6,f7⟩,⟨f8,f9⟩,f10⟩:=frozen11 F7.out.p.x
          go_upto_region 10 with fail
          clear x0 x1 x2 x3 x4 x5 x6 x7 x8 x9 x10 f0 f1 f2 f3 f4 f5 f6 f7 f8 f9 f10
          have F8:Hid (Fr g [g] w _ _ (Bx g w2.heap.size (exB 2 0 0 [] nm [] 0 (.slice none 0 0) pp pq pr) _)):=F7.out.set 4 (sv nm) (.inr hz2) rfl
          obtain ⟨w8,hw⟩: ∃W,w6.setCell ⟨w2.heap.size,4,none⟩ (sv nm)=W:=⟨_,rfl⟩
          rw [hw]at F8
          first | rw [hw] | (simp only [nv,sv]at hw;rw [hw])
          clear hw F7
          go_wp2_with fail
          refine (Fr.text F8).mono ?_;rintro e w9 ⟨rfl,F9⟩
          clear F8
          by_cases h7:txS σ7=[91]
          ·have s7:(txS σ7==[91])=true:=by simpa using h7
           have hm8:10 * lenS (openS σ7 [91])+7≤f:=by
            have:=lenS_open σ7 [91]
            obtain ⟨_,_,_,e,_⟩:=txS_pos h7 (by simp)
            rw [e]at this hm7⊢
            simp [lenS]at this hm7⊢
            omega
           clear h7
           obtain ⟨⟨⟨⟨x0,x1⟩,x2,x3⟩,⟨x4,x5⟩,x6,x7⟩,⟨x8,x9⟩,x10⟩:=cells11 F9.out.p.x
           obtain ⟨⟨⟨⟨f0,f1⟩,f2,f3⟩,⟨f4,f5⟩,f6,f7⟩,⟨f8,f9⟩,f10⟩:=frozen11 F9.out.p.x
           go_upto_region 12 with fail
           clear x0 x1 x2 x3 x4 x5 x6 x7 x8 x9 x10 f0 f1 f2 f3 f4 f5 f6 f7 f8 f9 f10
           have F10:Hid (Fr g [g] w _ _ (Bx g w2.heap.size (exB 3 0 0 [] nm [] 0 (.slice none 0 0) pp pq pr) _)):=F9.out.set 0 (nv 3) (.inr hz2) rfl
           obtain ⟨w10,hw⟩: ∃W,w9.setCell ⟨w2.heap.size,0,none⟩ (nv 3)=W:=⟨_,rfl⟩
           rw [hw]at F10
           first | rw [hw] | (simp only [nv,sv]at hw;rw [hw])
           clear hw F9
           clear s1 s2 s3 s4 s5 s6 s7
           obtain ⟨wd,hwd⟩: ∃W,w10.drew=W:=⟨_,rfl⟩
           have Fd:=Lib.hid (show Fr g [g] w wd σ7 _ by rw [← hwd];exact (F10.out.next (Below.refl _ _).drew).out)
           clear F10
           refine wp_region_Z [8,10] [w2.heap.size] (.read 0 (.read 1 (.read 2 (.read 4 (.two 3 5 (.call 5 (.call 6 (.pure 7 (.pure 9 (.swap 8 10 .done))))) (.call 3 (.call 6 (.pure 7 (.pure 9 (.swap 8 10 .done)))))))))) (by kernel_rfl) (by kernel_rfl) (fun _ _ d _ _ h=> by cases d <;> exact h) ?_
           rw [hwd]
           clear hwd
           refine zwith (fun W hW=> cells11 ((hW w2.heap.size (by simp)).trans Fd.out.p.x)) (fun qx=> ?_)
           repeat (refine zrE ?_;simp only [Act.put,sA,sB,sC])
           clear qx
           have hn0:=Fd.out.p.ne
           replace Fd: ∃xs,Hid (Fr g [g] w wd σ7 (Bx g w2.heap.size (exB 3 0 0 [] nm [] 0 (.slice none 0 0) pp pq pr) (fun V=> V.heap[w.heap.size]? =some zExB∧ArX True V (w2.heap.size+1) none 0 0 [] xs))):=⟨[],Fd.out.as (fun V V' m h=> ⟨m.box h.1 (by simp;omega),h.2.mod ex_keep m (fun j hj=> by simp at hj;omega)⟩) ⟨Fd.out.p.q,Ar.nil_ _ _⟩⟩
           obtain ⟨xs,Fd⟩:=Fd
           have hwd:=(Array.getElem?_eq_some_iff.1 Fd.out.p.x).1
           refine growX (vs:=#[.pointer (some ⟨g,0,none⟩)]) rfl rfl rfl (fun _=> rfl) (fun _=> rfl) (fun _=> rfl) rfl rfl rfl rfl rfl rfl rfl (by decide) (by simp) (by simp [Act.eval]) (fun v=> by simp [Act.eval,Act.put]) (fun W=> by go_simp) (fun W h=> f_key f HE.out σ7 W g h hm8) Fd (by omega) (by omega) (by omega) ?_
           intro vi vj w9 wA ek evk evn evs enm ecc eo eA em ec ep eq er σ8 y g9 c7 hvi F9 E9 N9 T9 o7 g7 h7 hz9
           subst hvi
           try simp only [Act.put,sA,sB,sC]
           have hg9:=(o7.lt g9 rfl).1
           have hl9:xs.length=0 * 11:=F9.out.p.q.2.own.1
           have hb9:=(Array.getElem?_eq_some_iff.1 F9.out.p.x).1
           have hx7:=(g7.block _ hb9 (fun e=> by have:=(F9.out.p.q.2.own.lt _ e.symm).1;omega)).trans F9.out.p.x
           have hown:=fun b h=> (Fd.out.p.q.2.own.lt b h).2
           repeat (refine zpE ?_;simp only [Act.put,sA,sB,sC])
           have FF:Hid (Fr g _ w _ σ8 (Bx g _ (exB 3 0 0 [] nm [] 0 (.slice (some ⟨g9,0,none⟩) (0+1) c7) pp pq pr) _)):=F9.out.row (i:=7) (y:=y) (lo1:=wd.heap.size) (fun V V' h h1=> (h _ (by omega) (by omega)).trans h1) (fun V V' m h=> m.box h (by simp;omega)) (.inr hz2) (by omega) (by omega) (fun h=> trivial) (by omega) (by omega) hown T9 hl9 o7 g7 h7 rfl
           refine zswapX (.tmp 83) (.tmp 79) (.tmp 84) (.tmp 82) rfl rfl rfl rfl rfl rfl rfl rfl rfl rfl rfl rfl o7 hl9 hx7 (by simp) (by omega) (zdone ?_)
           generalize hw:(put11 wA g9 (0 * 11) (nv ek) (nv evk) (nv evn) (sv evs) (sv enm) (sv ecc) (nv eo) (.slice eA em ec) (nv ep) (nv eq) (nv er)).setCell _ _=wF at FF⊢
           clear hw o7 g7 h7 hx7 F9 hown T9 hb9 hl9 hg9 Fd hz9
           go_wp2_with fail
           refine (Fr.want FF [46] (by simp)).mono ?_;rintro e wG ⟨rfl,FG⟩
           have SG:Hid (∀d r,wantS σ8 [46]=some (d,r)→∃t,σ8=some (d,t::r)∧W 1 (t::r)=2+W 1 r):=Lib.hid fun d r he=> wantS_some (by simp) he
           clear FF
           generalize wantS σ8 [46]=σ9 at *
           go_wp2_with fail
           refine (Fr.name FG).mono ?_;rintro e wH ⟨rfl,FH⟩
           have SH:Hid (∀d r,nmA σ9=some (d,r)→∃t,σ9=some (d,t::r)∧W 1 (t::r)=(nameS σ9).length+1+W 1 r∧isNameL (nameS σ9)=true):=Lib.hid fun d r he=> nmA_inv he
           clear FG
           generalize nmA σ9=σA at *
           generalize nameS σ9=cc at *
           obtain ⟨⟨⟨⟨x0,x1⟩,x2,x3⟩,⟨x4,x5⟩,x6,x7⟩,⟨x8,x9⟩,x10⟩:=cells11 FH.out.p.x
           obtain ⟨⟨⟨⟨f0,f1⟩,f2,f3⟩,⟨f4,f5⟩,f6,f7⟩,⟨f8,f9⟩,f10⟩:=frozen11 FH.out.p.x
           go_wp2_with fail
           clear x0 x1 x2 x3 x4 x5 x6 x7 x8 x9 x10 f0 f1 f2 f3 f4 f5 f6 f7 f8 f9 f10
           have FI:Hid (Fr g [g] w _ _ (Bx g w2.heap.size (exB 3 0 0 [] nm cc 0 (.slice (some ⟨g9,0,none⟩) 1 c7) pp pq pr) _)):=FH.out.set 5 (sv cc) (.inr hz2) rfl
           go_meet
           refine ⟨3,0,0,[],nm,cc,0,_,1,c7,pp,pq,pr,_,FI.out.as (fun _ _ m h=> m.box h (by simp;omega)) FI.out.p.q.1,Lib.hid fun d' r' e=> ?_⟩
           obtain ⟨tH,h1,h2,h3⟩:=SH.out _ _ e
           obtain ⟨tG,h4,h5⟩:=SG.out _ _ h1
           obtain ⟨l,h6,h8,h10⟩:=E9.out _ _ h4
           obtain ⟨tN,h11,h12,h13⟩:=SN.out _ _ h6
           obtain ⟨S,hS,hI⟩:=FI.out.p.q.2.at_ (by rw [h4];simp) (x:= .cell nm cc y) rfl
           refine ⟨d',tN::l,.cell nm cc y,_,c7,pp,pq,pr,⟨h11,rfl,by simp at h8⊢;omega⟩,⟨rfl,S,hS,hI.more (by omega)⟩,⟨h13,h3,N9.out (by rw [h4];simp)⟩,?_⟩
           have h14:=W_0 (e:=1) y 0
           rw [toksX_no (by simp [lvlX]),toks0,h12]
           simp only [W_cons,W_app,W_nil,cw_w,cw_g,List.length_cons,List.length_nil]
           omega
          ·have s7:(txS σ7==[91])=false:=by simpa using h7
           go_wp2_with fail
           go_meet
           refine ⟨2,0,0,[],nm,[],0,none,0,0,pp,pq,pr,_,F9,Lib.hid (XQ.leaf (x:= .var nm) rfl fun d' r' e=> ?_)⟩
           obtain ⟨t1,h8,h9,h10⟩:=SN.out _ _ e
           refine ⟨d',t1::r',⟨h8,rfl,by simp⟩,h10,?_⟩
           rw [toksX_no (by simp [lvlX]),toks0,h9]
           simp [W_cons,W_nil,cw_w]
end Go.Proofs.YtnbmpfdffoidaaaGreatDoor.Y
