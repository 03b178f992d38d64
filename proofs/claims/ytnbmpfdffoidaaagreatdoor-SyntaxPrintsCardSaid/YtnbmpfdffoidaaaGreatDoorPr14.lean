/- Texts of the proof, joined: RfT, SynSame, SynSameB, RfL. -/
import Derived.Test.YtnbmpfdffoidaaaGreatDoorPr03
import Derived.Test.YtnbmpfdffoidaaaGreatDoorPr07
import Derived.Test.YtnbmpfdffoidaaaGreatDoorPr13
set_option linter.unusedVariables false
set_option linter.unusedSimpArgs false
set_option maxHeartbeats 8000000
set_option maxRecDepth 100000
namespace Go.Proofs.YtnbmpfdffoidaaaGreatDoor.Y
open Go.RowKit O V S X
theorem rx_all: ∀f,ExprC f∧UnaryC f∧OperandC f
 | 0=> by
  have hE:ExprC 0:=fun lv σ w g h1 h6 _ hm=> by omega
  exact ⟨hE,fun σ w g _ hm=> by omega,fun σ w g h hm=> f_operand 0 hE σ w g h (by omega)⟩
 | f+1=> by
  obtain ⟨h1,h2,h3⟩:=rx_all f
  exact ⟨f_expr f h2 h1,f_unary f h2 h3,f_operand f h1⟩
theorem rexpr_any {σ:Sg}{w:World}{g:Nat}(h:ST w g σ):Calls Tryz.prog 152 #[.pointer (some ⟨g,0,none⟩),nv 1] w (XR 1 0 σ g w):=
 (rx_all (10 * lenS σ+7)).1 1 σ w g (by omega) (by omega) h (by omega)
theorem rkey_any {σ:Sg}{w:World}{g:Nat}(h:ST w g σ):Calls Tryz.prog 153 #[.pointer (some ⟨g,0,none⟩)] w (XR 0 4 σ g w):=
 f_key (10 * lenS (openS σ [91])+7) (rx_all _).1 σ w g h (by omega)
theorem Bx.cf {g b:Nat}{cs:Array Value}{T:TypeId}{q:World→Prop}{W:World}(h:Bx g b (.cells cs T (0,0)) q W)(i:Nat){v:Value}(e:cs[i]? =some v):W.cell? ⟨b,i,none⟩=some v∧W.frozen? ⟨b,i,none⟩=false:=
 ⟨by rw [Lib.cell_of_heap h.x];exact e,Lib.frozen_of_heap h.x i⟩
theorem ST.v3 {w:World}{g:Nat}{σ:Sg}(h:ST w g σ):
  (∃(A:Option Addr) (n c:Nat) (d e a b x p q r:Int),(w.heap[g]? =some (rfB A n c n d e a b x p q r)∧n≤100000∧n≤c∧c≤9223372036854775807)∧((σ=none∧(e==0)=false)∨∃d,σ=some (d,[])∧e=0))∨
  ∃(d:Nat) (t:Tok) (l:List Tok) (A:Option Addr) (n c:Nat) (L:List Tok) (i:Nat) (a b x p q r:Int),σ=some (d,t::l)∧RfA w g A n c L i d 0 a b x p q r∧∃hi:i < L.length,L[i]=t:=by
 match σ,h with
 | none,⟨A,n,c,L,d,e,a,b,x,p,q,r,he,h⟩=> exact .inl ⟨A,n,c,d,e,a,b,x,p,q,r,⟨h.box,h.len,h.row.cap.1,h.row.cap.2⟩,.inl ⟨rfl,by simpa using he⟩⟩
 | some (d,[]),⟨A,n,c,L,i,a,b,x,p,q,r,⟨hl,hi,_⟩,h⟩=>
  have hin:i=n:=by
   have:=congrArg List.length hl
   have hn:=h.row.len
   simp at this
   omega
  subst hin
  exact .inl ⟨A,i,c,d,0,a,b,x,p,q,r,⟨h.box,h.len,h.row.cap.1,h.row.cap.2⟩,.inr ⟨d,rfl,rfl⟩⟩
 | some (d,t::l),⟨A,n,c,L,i,a,b,x,p,q,r,⟨hl,_,_⟩,h⟩=>
  obtain ⟨hi,e1,_⟩:=drop_cons hl
  exact .inr ⟨d,t,l,A,n,c,L,i,a,b,x,p,q,r,rfl,h,hi,e1⟩
theorem set3 {w:World}{b:Nat}{T:TypeId}{u0 u1 u2 x0 x1 x2:Value}(h:w.heap[b]? =some (.cells #[u0,u1,u2] T (0,0))):
  (((((w.setCell ⟨b,0,none⟩ x0).setCell ⟨b,1,none⟩ x1).setCell ⟨b,2,none⟩ x2).cell? ⟨b,0,none⟩=some x0∧(((w.setCell ⟨b,0,none⟩ x0).setCell ⟨b,1,none⟩ x1).setCell ⟨b,2,none⟩ x2).cell? ⟨b,1,none⟩=some x1)∧(((w.setCell ⟨b,0,none⟩ x0).setCell ⟨b,1,none⟩ x1).setCell ⟨b,2,none⟩ x2).cell? ⟨b,2,none⟩=some x2)∧
   Mod [b] w (((w.setCell ⟨b,0,none⟩ x0).setCell ⟨b,1,none⟩ x1).setCell ⟨b,2,none⟩ x2):=
 ⟨cells3q (heap_set (i:=2) (heap_set (i:=1) (heap_set (i:=0) h x0) x1) x2),(((Mod.refl _ _).set (.inl (by simp)) _).set (.inl (by simp)) _).set (.inl (by simp)) _⟩
def badS:Sg→Bool
 | some (_,t::_)=> decide (t.1=2) && (decide (t.2.2.n < 1) || decide (32 < t.2.2.n))
 | _=> false
abbrev zClB:Obj:= .cells #[sv [],nv 0,nv 0] 72 (0,0)
abbrev clmO (n:List UInt8)(k m:Int):Obj:= .cells #[sv n,nv k,nv m] 72
abbrev clmB (n:List UInt8)(k m:Int):Obj:= .cells #[sv n,nv k,nv m] 72 (0,0)
def ColR (σ:Sg)(g:Nat)(w:World)(e:Ending)(w':World):Prop:= ∃nm k m σ',e= .returned (.agg #[sv nm,nv k,nv m])∧ST w' g σ'∧Mod [g] w w'∧Eat σ σ' (W 1 (toksC ⟨nm,k,m⟩))∧(σ'≠none→okC ⟨nm,k,m⟩∧nmS σ=true)
section
variable {g b:Nat} {ms:List Nat} {w W:World} {σ:Sg} {q:World→Prop}
theorem Fr.cl1 {n:List UInt8}{k m:Int}(F:Hid (Fr g ms w W σ (Bx g b (clmB n k m) q)))(hb:b ∈ ms∨w.heap.size≤b){v:Int}:Hid (Fr g ms w (W.setCell ⟨b,1,none⟩ (nv v)) σ (Bx g b (clmB n v m) q)):=F.out.set 1 _ hb rfl
theorem Fr.cl2 {n:List UInt8}{k m:Int}(F:Hid (Fr g ms w W σ (Bx g b (clmB n k m) q)))(hb:b ∈ ms∨w.heap.size≤b){v:Int}:Hid (Fr g ms w (W.setCell ⟨b,2,none⟩ (nv v)) σ (Bx g b (clmB n k v) q)):=F.out.set 2 _ hb rfl
end
theorem f_col (σ:Sg)(w:World)(g:Nat)(h:ST w g σ):Calls Tryz.prog 68 #[.pointer (some ⟨g,0,none⟩)] w (ColR σ g w):=by
 have hlt:=h.lt
 go_enter Tryz.func68,Tryz.ntmps68
 go_upto_region 1 with fail
 have F1:Hid (Fr g [g] w (w.alloc (clmO [] 0 0)) σ (fun V=> V.heap[w.heap.size]? =some zClB)):=Lib.hid ⟨by simp,fun _ _ m h=> m.box h (by simp;omega),(Mod.refl _ _).alloc _,h.next ((Below.refl _ _).alloc (Nat.le_refl _) _),alloc_at rfl⟩
 obtain ⟨w1,hw⟩: ∃W,w.alloc (clmO [] 0 0)=W:=⟨_,rfl⟩
 rw [hw]at F1
 rw [hw]
 clear hw h
 go_wp2_with fail
 refine (Fr.name F1).mono ?_;rintro e w2 ⟨rfl,F2⟩
 have hz2:=F2.out.m.size
 have hz22:w.heap.size < w2.heap.size:=(Array.getElem?_eq_some_iff.1 F2.out.p).1
 have S2:=Lib.hid (Eat.name σ)
 have hn2:nmA σ≠none→nmS σ=true:=fun h=> by
  unfold nmA at h
  split at h
  ·assumption
  ·exact absurd rfl h
 have N2:=Lib.hid hn2
 clear hn2
 generalize nameS σ=nm at *
 generalize nmA σ=σ2 at *
 go_upto_region 2 with fail
 have F3:=F2.out.box (k:=clmO nm 0 0) rfl (fun V=> V.heap[w.heap.size]? =some zClB) (fun _ _ m h=> m.box h (by simp;omega)) ((Below.heap_alloc _ _ _ hz22).trans F2.out.p)
 obtain ⟨w3,hw⟩: ∃W,w2.alloc (clmO nm 0 0)=W:=⟨_,rfl⟩
 rw [hw]at F3
 rw [hw]
 clear hw F1 F2
 go_wp2_with fail
 refine (Fr.take F3 [105,110,116] (by simp)).mono ?_;rintro e w4 ⟨rfl,F4⟩
 go_upto_if 8 with fail
 go_cut [] (fun wx=> ∃(k m:Int) (σ':Sg),Hid (Fr g [g] w wx σ' (Bx g w2.heap.size (clmB nm k m) (fun V=> V.heap[w.heap.size]? =some zClB)))∧Hid (Eat σ2 σ' (W 1 (toksT k m))∧(σ'≠none→(k=1∧m=0)∨(k=2∧m=0)∨(k=3∧1≤m∧m≤32))))
 case rest=>
  clear F3 F4
  obtain ⟨k,m,σ',F4,S4⟩:=hcut
  obtain ⟨w4,hw⟩: ∃W,wc=W:=⟨_,rfl⟩
  rw [hw]at F4
  rw [hw]
  clear hw
  obtain ⟨⟨x0,x1⟩,x2⟩:=cells3q F4.out.p.x
  obtain ⟨⟨z0,z1⟩,z2⟩:=cells3q F4.out.p.q
  obtain ⟨⟨v0,v1⟩,v2⟩:=frozen3p F4.out.p.q
  go_wp2_with fail
  clear x0 x1 x2 z0 z1 z2 v0 v1 v2
  obtain ⟨⟨⟨x0,x1⟩,x2⟩,M3⟩:=set3 (x0:=sv nm) (x1:=nv k) (x2:=nv m) F4.out.p.q
  refine bodyPost_ret (v:= .agg #[sv nm,nv k,nv m]) (by simp [results,Tryz.results68,go_sem,x0,x1,x2]) rfl ?_
  exact ⟨nm,k,m,σ',rfl,F4.out.s.keep fun j hj=> M3.block j (by have:=F4.out.m.size;omega) (by simp;omega),F4.out.m.trans M3 (fun x hx=> .inr (by simp at hx;omega)),S2.out.1.trans S4.out.1 (by show W 1 (tw nm::toksT k m)≤_;rw [W_cons,cw_w];omega),fun h=> have h2:=S4.out.1.some h;⟨⟨S2.out.2 h2,S4.out.2 h⟩,N2.out h2⟩⟩
 case first=>
  cases hb:takeB σ2 [105,110,116]with
  | true=>
   have S4:=Lib.hid (Eat.take (σ:=σ2) (s:=[105,110,116]) (by simp) hb)
   generalize takeS σ2 [105,110,116]=σ4 at *
   clear F3 hb
   obtain ⟨c1,f1⟩:=F4.out.p.cf 1 rfl
   go_wp2_with fail
   go_meet
   exact ⟨1,0,σ4,Fr.cl1 F4 (.inr hz2),Lib.hid ⟨S4.out,fun _=> .inl ⟨rfl,rfl⟩⟩⟩
  | false=>
   rw [takeS_no hb]at F4
   clear F3 hb
   go_wp2_with fail
   refine (Fr.take F4 [98,111,111,108] (by simp)).mono ?_;rintro e w5 ⟨rfl,F5⟩
   cases hb:takeB σ2 [98,111,111,108]with
   | true=>
    have S4:=Lib.hid (Eat.take (σ:=σ2) (s:=[98,111,111,108]) (by simp) hb)
    generalize takeS σ2 [98,111,111,108]=σ4 at *
    clear F4 hb
    obtain ⟨c1,f1⟩:=F5.out.p.cf 1 rfl
    go_wp2_with fail
    go_meet
    exact ⟨2,0,σ4,Fr.cl1 F5 (.inr hz2),Lib.hid ⟨S4.out,fun _=> .inr (.inl ⟨rfl,rfl⟩)⟩⟩
   | false=>
    rw [takeS_no hb]at F5
    clear F4 hb
    go_wp2_with fail
    refine (Fr.want F5 [116,101,120,116] (by simp)).mono ?_;rintro e w6 ⟨rfl,F6⟩
    have S6:=Lib.hid (Eat.want σ2 (s:=[116,101,120,116]) (by simp))
    generalize wantS σ2 [116,101,120,116]=σ6 at *
    clear F5
    obtain ⟨c1,f1⟩:=F6.out.p.cf 1 rfl
    go_upto_region 8 with fail
    clear c1 f1
    have F7:=Fr.cl1 F6 (.inr hz2) (v:=3)
    obtain ⟨w7,hw⟩: ∃W,w6.setCell ⟨w2.heap.size,1,none⟩ (nv 3)=W:=⟨_,rfl⟩
    rw [hw]at F7
    simp only [nv]at hw
    rw [hw]
    clear hw F6
    go_cut [79] (fun v wx=> v= .bool (badS σ6)∧Hid (Fr g [g] w wx σ6 (Bx g w2.heap.size (clmB nm 3 0) (fun V=> V.heap[w.heap.size]? =some zClB))))
    case first=>
     have F8:=F7.out.next (Below.refl _ _).drew
     rcases F7.out.s.v3 with ⟨A,n,c,d,e,a,b,x,p,q,r,⟨hbox,hn,hc1,hc2⟩,hno⟩ | ⟨d,t,l,A,n,c,L,i,a,b,x,p,q,r,rfl,hr,hi,ht⟩
     ·have HB:=Lib.hid hbox
      have hl:badS σ6=false:=by
       rcases hno with ⟨rfl,_⟩ | ⟨d,rfl,_⟩ <;> rfl
      have HL:=Lib.hid hl
      clear hbox hl
      rcases hno with ⟨_,he⟩ | ⟨_,_,rfl⟩
      ·refine wp_region_sched [(0,true),(1,true),(2,true),(3,true),(4,true),(5,true),(6,true),(7,true),(8,true),(9,true),(10,true),(11,true),(12,true),(13,true),(14,true),(15,true),(16,true),(17,true),(18,true),(19,true),(20,true),(21,true),(22,true),(23,true),(24,true),(25,true),(26,true),(27,true),(28,true),(29,true),(30,true),(31,true),(32,true),(33,true),(34,true),(35,true),(36,true),(37,true),(38,true),(39,true),(40,true),(41,true),(42,true),(43,true),(44,true),(45,true),(46,true),(47,true),(48,true),(49,true),(50,true),(51,true),(52,true),(53,true),(54,true),(55,true),(56,true),(57,true),(58,true),(59,true),(60,true)] (by kernel_rfl) (by kernel_rfl) (fun _ _ d _ _ h=> by cases d <;> exact h) ?_
       refine swith (fun W hW=> (cells10 (box_next HB.out ((Below.refl _ _).drew.trans hW.out)))) (fun qx=> ?_)
       repeat (first | (refine srE ?_;simp only [Act.put,sA,sB,sC]) | (refine skE ?_;simp only [Act.put,sA,sB,sC]))
       refine sdone ?_
       go_wp2_with fail
       go_meet
       exact ⟨by rw [HL.out],F8⟩
      ·refine wp_region_sched [(0,true),(1,true),(2,true),(3,true),(4,true),(5,true),(6,true),(7,true),(8,true),(9,true),(10,true),(11,true),(12,true),(13,true),(14,true),(15,true),(16,true),(17,true),(18,true),(19,true),(20,true),(21,true),(22,true),(23,true),(24,true),(25,true),(26,true),(27,true),(28,true),(29,true),(30,true),(31,true),(32,true),(33,true),(34,true),(35,true),(36,true),(37,true),(38,true),(39,true),(40,true),(41,true),(42,true),(43,true),(44,true),(45,true),(46,true),(47,true),(48,true),(49,true),(50,true),(51,true),(52,true),(53,true),(54,true),(55,true),(56,true),(57,true),(58,true),(59,true),(60,true)] (by kernel_rfl) (by kernel_rfl) (fun _ _ d _ _ h=> by cases d <;> exact h) ?_
       refine swith (fun W hW=> (cells10 (box_next HB.out ((Below.refl _ _).drew.trans hW.out)))) (fun qx=> ?_)
       repeat (first | (refine srE ?_;simp only [Act.put,sA,sB,sC]) | (refine skE ?_;simp only [Act.put,sA,sB,sC]))
       refine sdone ?_
       go_wp2_with fail
       go_meet
       exact ⟨by rw [HL.out],F8⟩
     ·have HB:=Lib.hid hr.box
      have hcap:=hr.row.cap
      have hn:=hr.len
      have hin:i < n:=by have:=hr.row.len;omega
      obtain ⟨tb,off,tp,tq,tr,rfl,hb,hc⟩:=hr.tk hi
      rw [ht]at hc
      have HC:=Lib.hid hc
      have hii:(i:Int) < (n:Int):=by omega
      have hnn: ¬n≤i:=by omega
      clear hc hr ht hi L
      by_cases hk:t.1=2
      ·have d1:(t.1==2)=true:=by simpa using hk
       by_cases h1:t.2.2.n < 1
       ·have d2:decide (t.2.2.n < 1)=true:=by simpa using h1
        have HL:Hid (badS (some (d,t::l))=true):=Lib.hid (by simp [badS,hk,h1])
        clear hk h1
        refine wp_region_sched [(0,true),(1,true),(2,true),(3,true),(4,true),(5,true),(6,true),(7,true),(8,true),(9,true),(10,true),(11,true),(12,true),(13,true),(14,true),(15,true),(16,true),(17,true),(18,true),(19,true),(20,true),(21,true),(22,true),(23,true),(24,true),(25,true),(26,true),(27,true),(28,true),(29,true),(30,true),(31,true),(32,true),(33,true),(34,true),(35,true),(36,true),(37,true),(38,true),(39,true),(40,true),(41,true),(42,true),(43,true),(44,true),(45,true),(46,true),(47,true),(48,true),(49,true),(50,true),(51,true),(52,true),(53,true),(54,true),(55,true),(56,true),(57,true),(58,true),(59,true),(60,true)] (by kernel_rfl) (by kernel_rfl) (fun _ _ d _ _ h=> by cases d <;> exact h) ?_
        refine swith (fun W hW=> (cells10 (box_next HB.out ((Below.refl _ _).drew.trans hW.out)))) (fun qx=> ?_)
        refine swith (fun W hW=> (HC.out W ((Below.refl _ _).drew.trans hW.out))) (fun qt=> ?_)
        repeat (first | (refine srE ?_;simp only [Act.put,sA,sB,sC]) | (refine skE ?_;simp only [Act.put,sA,sB,sC]))
        refine sdone ?_
        go_wp2_with fail
        go_meet
        exact ⟨by rw [HL.out],F8⟩
       ·have d2:decide (t.2.2.n < 1)=false:=by simpa using h1
        by_cases h2:32 < t.2.2.n
        ·have d3:decide (32 < t.2.2.n)=true:=by simpa using h2
         have HL:Hid (badS (some (d,t::l))=true):=Lib.hid (by simp [badS,hk,h2])
         clear hk h1 h2
         refine wp_region_sched [(0,true),(1,true),(2,true),(3,true),(4,true),(5,true),(6,true),(7,true),(8,true),(9,true),(10,true),(11,true),(12,true),(13,true),(14,true),(15,true),(16,true),(17,true),(18,true),(19,true),(20,true),(21,true),(22,true),(23,true),(24,true),(25,true),(26,true),(27,true),(28,true),(29,true),(30,true),(31,true),(32,true),(33,true),(34,true),(35,true),(36,true),(37,true),(38,true),(39,true),(40,true),(41,true),(42,true),(43,true),(44,true),(45,true),(46,true),(47,true),(48,true),(49,true),(50,true),(51,true),(52,true),(53,true),(54,true),(55,true),(56,true),(57,true),(58,true),(59,true),(60,true)] (by kernel_rfl) (by kernel_rfl) (fun _ _ d _ _ h=> by cases d <;> exact h) ?_
         refine swith (fun W hW=> (cells10 (box_next HB.out ((Below.refl _ _).drew.trans hW.out)))) (fun qx=> ?_)
         refine swith (fun W hW=> (HC.out W ((Below.refl _ _).drew.trans hW.out))) (fun qt=> ?_)
         repeat (first | (refine srE ?_;simp only [Act.put,sA,sB,sC]) | (refine skE ?_;simp only [Act.put,sA,sB,sC]))
         refine sdone ?_
         go_wp2_with fail
         go_meet
         exact ⟨by rw [HL.out],F8⟩
        ·have d3:decide (32 < t.2.2.n)=false:=by simpa using h2
         have HL:Hid (badS (some (d,t::l))=false):=Lib.hid (by simp [badS,hk,h2,h1])
         clear hk h1 h2
         refine wp_region_sched [(0,true),(1,true),(2,true),(3,true),(4,true),(5,true),(6,true),(7,true),(8,true),(9,true),(10,true),(11,true),(12,true),(13,true),(14,true),(15,true),(16,true),(17,true),(18,true),(19,true),(20,true),(21,true),(22,true),(23,true),(24,true),(25,true),(26,true),(27,true),(28,true),(29,true),(30,true),(31,true),(32,true),(33,true),(34,true),(35,true),(36,true),(37,true),(38,true),(39,true),(40,true),(41,true),(42,true),(43,true),(44,true),(45,true),(46,true),(47,true),(48,true),(49,true),(50,true),(51,true),(52,true),(53,true),(54,true),(55,true),(56,true),(57,true),(58,true),(59,true),(60,true)] (by kernel_rfl) (by kernel_rfl) (fun _ _ d _ _ h=> by cases d <;> exact h) ?_
         refine swith (fun W hW=> (cells10 (box_next HB.out ((Below.refl _ _).drew.trans hW.out)))) (fun qx=> ?_)
         refine swith (fun W hW=> (HC.out W ((Below.refl _ _).drew.trans hW.out))) (fun qt=> ?_)
         repeat (first | (refine srE ?_;simp only [Act.put,sA,sB,sC]) | (refine skE ?_;simp only [Act.put,sA,sB,sC]))
         refine sdone ?_
         go_wp2_with fail
         go_meet
         exact ⟨by rw [HL.out],F8⟩
      ·have d1:(t.1==2)=false:=by simpa using hk
       have HL:Hid (badS (some (d,t::l))=false):=Lib.hid (by simp [badS,hk])
       clear hk
       refine wp_region_sched [(0,true),(1,true),(2,true),(3,true),(4,true),(5,true),(6,true),(7,true),(8,true),(9,true),(10,true),(11,true),(12,true),(13,true),(14,true),(15,true),(16,true),(17,true),(18,true),(19,true),(20,true),(21,true),(22,true),(23,true),(24,true),(25,true),(26,true),(27,true),(28,true),(29,true),(30,true),(31,true),(32,true),(33,true),(34,true),(35,true),(36,true),(37,true),(38,true),(39,true),(40,true),(41,true),(42,true),(43,true),(44,true),(45,true),(46,true),(47,true),(48,true),(49,true),(50,true),(51,true),(52,true),(53,true),(54,true),(55,true),(56,true),(57,true),(58,true),(59,true),(60,true)] (by kernel_rfl) (by kernel_rfl) (fun _ _ d _ _ h=> by cases d <;> exact h) ?_
       refine swith (fun W hW=> (cells10 (box_next HB.out ((Below.refl _ _).drew.trans hW.out)))) (fun qx=> ?_)
       refine swith (fun W hW=> (HC.out W ((Below.refl _ _).drew.trans hW.out))) (fun qt=> ?_)
       repeat (first | (refine srE ?_;simp only [Act.put,sA,sB,sC]) | (refine skE ?_;simp only [Act.put,sA,sB,sC]))
       refine sdone ?_
       go_wp2_with fail
       go_meet
       exact ⟨by rw [HL.out],F8⟩
    case rest=>
     clear F7
     obtain ⟨rfl,F8⟩:=hcut
     obtain ⟨w8,hw⟩: ∃W,wc=W:=⟨_,rfl⟩
     rw [hw]at F8
     rw [hw]
     clear hw
     cases hb:badS σ6 with
     | true=>
      go_wp2_with fail
      refine (Fr.fail F8 22 (by decide)).mono ?_;rintro e w9 ⟨rfl,F9⟩
      go_wp2_with fail
      refine (Fr.num F9).mono ?_;rintro e wA ⟨rfl,FA⟩
      clear F8 F9
      obtain ⟨c2,f2⟩:=FA.out.p.cf 2 rfl
      go_wp2_with fail
      go_meet
      exact ⟨3,_,none,Fr.cl2 FA (.inr hz2),Lib.hid ⟨(fun _ _ e=> nomatch e),fun h=> absurd rfl h⟩⟩
     | false=>
      go_wp2_with fail
      refine (Fr.num F8).mono ?_;rintro e w9 ⟨rfl,F9⟩
      have S9:=Lib.hid (Eat.num F8.out.s)
      have T9:Hid (∀d r,numA σ6=some (d,r)→∃t,σ6=some (d,t::r)∧t.1=2∧nnS σ6=t.2.2.n):=Lib.hid fun d r e=> by
       obtain ⟨t,h1,h2,h3,_⟩:=numA_inv F8.out.s e
       exact ⟨t,h1,h2,h3⟩
      have HB:=Lib.hid hb
      clear F8 hb
      obtain ⟨c2,f2⟩:=F9.out.p.cf 2 rfl
      go_wp2_with fail
      go_meet
      refine ⟨3,_,_,Fr.cl2 F9 (.inr hz2),Lib.hid ⟨S6.out.trans S9.out.1 (by simp [toksT,W_cons,W_nil,cw_w,cw_n,w_text]),fun h=> ?_⟩⟩
      cases h0:numA σ6 with
      | none=> exact absurd h0 h
      | some y=>
       obtain ⟨t,h1,h2,h3⟩:=T9.out y.1 y.2 h0
       have hb:=HB.out
       rw [h1]at hb
       simp only [badS,h2,decide_true,Bool.true_and,Bool.or_eq_false_iff,decide_eq_false_iff_not]at hb
       exact .inr (.inr ⟨rfl,by omega,by omega⟩)
end Go.Proofs.YtnbmpfdffoidaaaGreatDoor.Y
namespace Go.Proofs.YtnbmpfdffoidaaaGreatDoor.Y
open Go.RowKit O V S X
theorem ex_ext {x y:Ex}:x=y ↔ ((hdK x=hdK y∧hdV x=hdV y)∧(hdN x=hdN y∧hdC x=hdC y)∧hdO x=hdO y)∧parts x=parts y:=by
 cases x <;> cases y <;> simp [hdK,hdV,hdN,hdC,hdO,parts] <;> grind
def RX (w:World)(S:Nat→Prop)(A:Option Addr)(c:Nat)(l:List Ex):Prop:= ∃es,Row w S 11 A l.length c es∧Reps (ExR w S) l es
theorem RX.keep {w w':World}{S:Nat→Prop}{A:Option Addr}{c:Nat}{l:List Ex}(h:RX w S A c l)(hk: ∀b,S b→w'.heap[b]? =w.heap[b]?):RX w' S A c l:=by
 obtain ⟨es,h1,h2⟩:=h
 exact ⟨es,h1.keep hk,h2.imp fun y us=> ExR.keep hk y us⟩
theorem RX.at_ {w:World}{S:Nat→Prop}{l:List Ex}{A:Option Addr}{c:Nat}(h:RX w S A c l){B:Nat}(hS: ∀b,S b→b < B){i:Nat}(hi:i < l.length):
  ∃b off A' c' p q r,A=some ⟨b,off,none⟩∧b < B∧(∀j,j < 11→w.cell? ⟨b,off+i * 11+j,none⟩=(exC l[i] (.slice A' (parts l[i]).length c') p q r)[j]?)∧RX w S A' c' (parts l[i]):=by
 obtain ⟨es,h1,h2⟩:=h
 obtain ⟨b,off,vs,e,hb,hr,hc⟩:=(h1.rd hS).elem ExR.size h2 hi (by omega)
 obtain ⟨A',c',p,q,r,rfl,h3⟩:=ExAt.of hr
 exact ⟨b,off,A',c',p,q,r,e,hb,hc,h3.ex⟩
theorem take_same {α:Type}{l m:List α}{k:Nat}(h:k < l.length)(h':k < m.length)(e:l.take k=m.take k)(he:l[k]=m[k]):l.take (k+1)=m.take (k+1):=by
 rw [List.take_succ_eq_append_getElem h,List.take_succ_eq_append_getElem h',e,he]
theorem ne_at {α:Type}{l m:List α}{k:Nat}(h:k < l.length)(h':k < m.length)(he:l[k]≠m[k]):l≠m:=fun e=> he (by subst e;rfl)
def RetQ (P:Prop)(e:Ending):Prop:= ∃b:Bool,e= .returned (.bool b)∧(b=true ↔ P)
def SameR (l:List Ex):Prop:= ∀(m:List Ex) (A B:Option Addr) (c c':Nat) (S S':Nat→Prop) (w:World),RX w S A c l→RX w S' B c' m→(∀b,S b→b < w.heap.size)→(∀b,S' b→b < w.heap.size)→l.length≤1000000→m.length≤1000000→
 Calls Tryz.prog 59 #[.slice A l.length c,.slice B m.length c',.bool false] w fun e w'=> RetQ (l=m) e∧Below w.heap.size w w'
theorem same_step (l:List Ex)(ih: ∀x ∈ l,SameR (parts x)):SameR l:=by
 intro m A B c c' S S' w h1 h2 hS hS' hl hm
 have HIH:=Lib.hid ih
 clear ih
 by_cases hne:l.length=m.length
 ·obtain ⟨n,hn⟩: ∃n,l.length=n:=⟨_,rfl⟩
  have hn2:m.length=n:=by omega
  have HN:=Lib.hid hn
  have HN2:=Lib.hid hn2
  rw [hn,hn2]
  rw [hn]at hl
  clear hn hn2 hm hne
  have H1:=Lib.hid h1
  have H2:=Lib.hid h2
  have HS:=Lib.hid hS
  have HS':=Lib.hid hS'
  clear h1 h2 hS hS'
  go_enter Tryz.func59,Tryz.ntmps59
  go_wp2_with fail
  go_loopw [6,17] (fun _ i wr=> ∃k:Nat,k≤n∧i= .int .i64 k∧Hid (l.take k=m.take k)∧Below w.heap.size w wr) (fun _ i _=> n - (intOf i).toNat)
  case atStart=> exact ⟨0,by omega,rfl,Lib.hid (by simp),Below.refl _ _⟩
  case round=>
   obtain ⟨k,hk,rfl,H,hb⟩:=hrel
   by_cases hlt:k < n
   ·have hlt':k < l.length:=by rw [HN.out];exact hlt
    have hlt2:k < m.length:=by rw [HN2.out];exact hlt
    have hki:(k:Int) < (n:Int):=by omega
    obtain ⟨b1,off1,A1,c1,p1,q1,r1,rfl,hb1,hc1,g1⟩:=(H1.out.keep (w':=wr) fun b hB=> hb.block b (HS.out b hB)).at_ HS.out hlt'
    obtain ⟨b2,off2,A2,c2,p2,q2,r2,rfl,hb2,hc2,g2⟩:=(H2.out.keep (w':=wr) fun b hB=> hb.block b (HS'.out b hB)).at_ HS'.out hlt2
    have hst:=Lib.hid (take_same hlt' hlt2 H.out)
    have hno:=Lib.hid (ne_at hlt' hlt2)
    have hih:=Lib.hid (HIH.out _ (List.getElem_mem hlt'))
    have G1:=Lib.hid g1
    have G2:=Lib.hid g2
    have hL1:=parts_len l[k]
    have hL2:=parts_len m[k]
    have hx:=Lib.hid (ex_ext (x:=l[k]) (y:=m[k]))
    clear g1 g2
    have hz:=hb.size
    have hbw1:b1 < wr.heap.size:=by omega
    have hbw2:b2 < wr.heap.size:=by omega
    generalize l[k]=x at *
    generalize m[k]=y at *
    have HNO:Hid (¬(((hdK x=hdK y∧hdV x=hdV y)∧(hdN x=hdN y∧hdC x=hdC y)∧hdO x=hdO y)∧parts x=parts y)→l≠m):=Lib.hid fun h=> hno.out fun e=> h (hx.out.1 e)
    have HYES:Hid (((hdK x=hdK y∧hdV x=hdV y)∧(hdN x=hdN y∧hdC x=hdC y)∧hdO x=hdO y)∧parts x=parts y→l.take (k+1)=m.take (k+1)):=Lib.hid fun h=> hst.out (hx.out.2 h)
    clear hno hst hx
    unfold exC at hc1 hc2
    generalize hdK x=xk at *
    generalize hdV x=xv at *
    generalize hdN x=xn at *
    generalize hdC x=xc at *
    generalize hdO x=xo at *
    generalize hdK y=yk at *
    generalize hdV y=yv at *
    generalize hdN y=yn at *
    generalize hdC y=yc at *
    generalize hdO y=yo at *
    generalize parts x=xl at *
    generalize parts y=yl at *
    have xy0:wr.cell? ⟨b1,off1+k * 11,none⟩=some (nv xk):=hc1 0 (by omega)
    have xy1:wr.cell? ⟨b1,off1+k * 11+1,none⟩=some (nv xv.k):=hc1 1 (by omega)
    have xy2:wr.cell? ⟨b1,off1+k * 11+2,none⟩=some (nv xv.n):=hc1 2 (by omega)
    have xy3:wr.cell? ⟨b1,off1+k * 11+3,none⟩=some (sv xv.s):=hc1 3 (by omega)
    have xy4:wr.cell? ⟨b1,off1+k * 11+4,none⟩=some (sv xn):=hc1 4 (by omega)
    have xy5:wr.cell? ⟨b1,off1+k * 11+5,none⟩=some (sv xc):=hc1 5 (by omega)
    have xy6:wr.cell? ⟨b1,off1+k * 11+6,none⟩=some (nv (xo:Nat)):=hc1 6 (by omega)
    have xy7:wr.cell? ⟨b1,off1+k * 11+7,none⟩=some (.slice A1 xl.length c1):=hc1 7 (by omega)
    have xy8:wr.cell? ⟨b1,off1+k * 11+8,none⟩=some (nv p1):=hc1 8 (by omega)
    have xy9:wr.cell? ⟨b1,off1+k * 11+9,none⟩=some (nv q1):=hc1 9 (by omega)
    have xy10:wr.cell? ⟨b1,off1+k * 11+10,none⟩=some (nv r1):=hc1 10 (by omega)
    have yy0:wr.cell? ⟨b2,off2+k * 11,none⟩=some (nv yk):=hc2 0 (by omega)
    have yy1:wr.cell? ⟨b2,off2+k * 11+1,none⟩=some (nv yv.k):=hc2 1 (by omega)
    have yy2:wr.cell? ⟨b2,off2+k * 11+2,none⟩=some (nv yv.n):=hc2 2 (by omega)
    have yy3:wr.cell? ⟨b2,off2+k * 11+3,none⟩=some (sv yv.s):=hc2 3 (by omega)
    have yy4:wr.cell? ⟨b2,off2+k * 11+4,none⟩=some (sv yn):=hc2 4 (by omega)
    have yy5:wr.cell? ⟨b2,off2+k * 11+5,none⟩=some (sv yc):=hc2 5 (by omega)
    have yy6:wr.cell? ⟨b2,off2+k * 11+6,none⟩=some (nv (yo:Nat)):=hc2 6 (by omega)
    have yy7:wr.cell? ⟨b2,off2+k * 11+7,none⟩=some (.slice A2 yl.length c2):=hc2 7 (by omega)
    have yy8:wr.cell? ⟨b2,off2+k * 11+8,none⟩=some (nv p2):=hc2 8 (by omega)
    have yy9:wr.cell? ⟨b2,off2+k * 11+9,none⟩=some (nv q2):=hc2 9 (by omega)
    have yy10:wr.cell? ⟨b2,off2+k * 11+10,none⟩=some (nv r2):=hc2 10 (by omega)
    clear hc1 hc2 H
    by_cases e0:xk=yk
    ·subst e0
     by_cases e1:xv=yv
     ·subst e1
      have s1:=fun w=> vneq_no xv w
      by_cases e2:xn=yn
      ·subst e2
       have s2:=fun w=> sneq_no xn w
       by_cases e3:xc=yc
       ·subst e3
        have s3:=fun w=> sneq_no xc w
        by_cases e4:xo=yo
        ·subst e4
         go_wp2_with fail
         refine (hih.out yl A1 A2 c1 c2 S S' _ (G1.out.keep fun b hB=> ?_) (G2.out.keep fun b hB=> ?_) (fun b hB=> ?_) (fun b hB=> ?_) (by omega) (by omega)).mono ?_
         ·exact ((Below.refl wr.heap.size wr).alloc (Nat.le_refl _) _ |>.alloc (by simp) _).block b (by have:=HS.out b hB;omega)
         ·exact ((Below.refl wr.heap.size wr).alloc (Nat.le_refl _) _ |>.alloc (by simp) _).block b (by have:=HS'.out b hB;omega)
         ·have:=HS.out b hB;simp;omega
         ·have:=HS'.out b hB;simp;omega
         rintro e w5 ⟨⟨bb,rfl,hbb⟩,b5⟩
         have HBB:=Lib.hid hbb
         clear hbb
         have B5:Below w.heap.size w w5:=bthen (by repeat (first | (with_reducible exact hb) | refine Below.alloc ?_ (by first | omega | (simp <;> omega)) _)) b5
         cases bb with
         | false=>
          go_wp2_with fail
          go_ret
          refine ⟨⟨false,rfl,?_⟩,B5⟩
          have:=HNO.out (by simpa using HBB.out)
          simp [this]
         | true=>
          go_wp2_with fail
          go_roundw
          case rel=> exact ⟨k+1,by omega,by go_num,Lib.hid (HYES.out (by simpa using HBB.out)),B5⟩
          case measure=> simp [intOf];omega
        ·have d4:((xo:Int) !=(yo:Int))=true:=by simp;omega
         go_wp2_with fail
         go_ret
         refine ⟨⟨false,rfl,?_⟩,?_⟩
         ·have:=HNO.out (fun h=> e4 h.1.2.2)
          simp [this]
         ·repeat (first | (with_reducible exact hb) | refine Below.alloc ?_ (by first | omega | (simp <;> omega)) _)
       ·have s3:=fun w=> sneq_yes e3 w
        go_wp2_with fail
        go_ret
        refine ⟨⟨false,rfl,?_⟩,?_⟩
        ·have:=HNO.out (fun h=> e3 h.1.2.1.2)
         simp [this]
        ·repeat (first | (with_reducible exact hb) | refine Below.alloc ?_ (by first | omega | (simp <;> omega)) _)
      ·have s2:=fun w=> sneq_yes e2 w
       go_wp2_with fail
       go_ret
       refine ⟨⟨false,rfl,?_⟩,?_⟩
       ·have:=HNO.out (fun h=> e2 h.1.2.1.1)
        simp [this]
       ·repeat (first | (with_reducible exact hb) | refine Below.alloc ?_ (by first | omega | (simp <;> omega)) _)
     ·have s1:=fun w=> vneq_yes e1 w
      go_wp2_with fail
      go_ret
      refine ⟨⟨false,rfl,?_⟩,?_⟩
      ·have:=HNO.out (fun h=> e1 h.1.1.2)
       simp [this]
      ·repeat (first | (with_reducible exact hb) | refine Below.alloc ?_ (by first | omega | (simp <;> omega)) _)
    ·have d0:(xk !=yk)=true:=by simpa using e0
     go_wp2_with fail
     go_ret
     refine ⟨⟨false,rfl,?_⟩,?_⟩
     ·have:=HNO.out (fun h=> e0 h.1.1.1)
      simp [this]
     ·repeat (first | (with_reducible exact hb) | refine Below.alloc ?_ (by first | omega | (simp <;> omega)) _)
   ·obtain rfl:k=n:=by omega
    have hall:l=m:=by
     have:=H.out
     rwa [List.take_of_length_le (by rw [HN.out];exact Nat.le_refl _),List.take_of_length_le (by rw [HN2.out];exact Nat.le_refl _)]at this
    go_wp2_with fail
    go_ret
    exact ⟨⟨true,rfl,by simp [hall]⟩,hb⟩
 ·have hr:Hid (l≠m):=Lib.hid (fun e=> hne (by rw [e]))
  have d1:((l.length:Int) !=(m.length:Int))=true:=by simp;omega
  clear h1 h2
  go_enter Tryz.func59,Tryz.ntmps59
  go_wp2_with fail
  go_ret
  exact ⟨⟨false,rfl,by simp [hr.out]⟩,Below.refl _ _⟩
theorem sameR_parts: ∀x:Ex,SameR (parts x):=Ex.ind fun x ih=> same_step _ ih
theorem sameR_any (l:List Ex):SameR l:=same_step l fun x _=> sameR_parts x
end Go.Proofs.YtnbmpfdffoidaaaGreatDoor.Y
namespace Go.Proofs.YtnbmpfdffoidaaaGreatDoor.Y
open Go.RowKit O V S X
theorem st_ext {x y:St}:x=y ↔ ((stK x=stK y∧stN x=stN y)∧(stT x=stT y∧stC x=stC y)∧stI x=stI y)∧stA x=stA y∧stB x=stB y∧stE x=stE y:=by
 cases x <;> cases y <;> simp [stK,stN,stT,stC,stI,stA,stB,stE] <;> grind
theorem list_inj: ∀{a b:Sts},a.list=b.list→a=b
 | .nil,.nil,_=> rfl
 | .nil,.cons s r,h=> by simp [Sts.list]at h
 | .cons s r,.nil,h=> by simp [Sts.list]at h
 | .cons s r,.cons s' r',h=> by
  simp only [Sts.list,List.cons.injEq]at h
  rw [h.1,list_inj h.2]
def RS (w:World)(S:Nat→Prop)(A:Option Addr)(c:Nat)(b:Sts):Prop:= ∃es,Row w S 11 A b.len c es∧StsR w S b es
theorem RS.keep {w w':World}{S:Nat→Prop}{A:Option Addr}{c:Nat}{b:Sts}(h:RS w S A c b)(hk: ∀b,S b→w'.heap[b]? =w.heap[b]?):RS w' S A c b:=by
 obtain ⟨es,h1,h2⟩:=h
 exact ⟨es,h1.keep hk,StsR.keep hk _ _ h2⟩
theorem RS.cap {w:World}{S:Nat→Prop}{A:Option Addr}{c:Nat}{b:Sts}(h:RS w S A c b):b.len≤c∧c≤9223372036854775807:=by
 obtain ⟨es,h1,_⟩:=h
 exact h1.cap
theorem RS.at_ {w:World}{S:Nat→Prop}{l:Sts}{A:Option Addr}{c:Nat}(h:RS w S A c l){B:Nat}(hS: ∀b,S b→b < B){i:Nat}(hi:i < l.list.length):
  ∃b off A' c' B' d' E' f',∃p q r:Int,(A=some ⟨b,off,none⟩∧b < B)∧(∀j,j < 11→w.cell? ⟨b,off+i * 11+j,none⟩=(stV l.list[i] (.slice A' (stA l.list[i]).length c') (.slice B' (stB l.list[i]).len d') (.slice E' (stE l.list[i]).len f') p q r)[j]?)∧RX w S A' c' (stA l.list[i])∧RS w S B' d' (stB l.list[i])∧RS w S E' f' (stE l.list[i]):=by
 obtain ⟨es,h1,h2⟩:=h
 have h3:=(StsR_reps _ _).1 h2
 rw [Sts.list_len]at hi
 obtain ⟨b,off,vs,e,hb,hr,hc⟩:=(h1.rd hS).elem StR.size h3 (i:=i) (by rw [Sts.list_len];exact hi) (by omega)
 obtain ⟨A',c',es',B',d',bs',E',f',fs',p,q,r,rfl,⟨h5,h6⟩,⟨h7,h8⟩,h9,h10⟩:=(StR_eq _ _).1 hr
 exact ⟨b,off,A',c',B',d',E',f',p,q,r,⟨e,hb⟩,hc,⟨_,h5,h6⟩,⟨_,h7,h8⟩,⟨_,h9,h10⟩⟩
def SameB (l:Sts):Prop:= ∀(m:Sts) (A B:Option Addr) (c c':Nat) (S S':Nat→Prop) (w:World),RS w S A c l→RS w S' B c' m→(∀b,S b→b < w.heap.size)→(∀b,S' b→b < w.heap.size)→
 Calls Tryz.prog 25 #[.slice A l.len c,.slice B m.len c',.bool false] w fun e w'=> RetQ (l=m) e∧Below w.heap.size w w'
theorem stA_len (s:St):(stA s).length≤2:=by cases s <;> simp [stA]
theorem sameB_step (l:Sts)(ih: ∀x ∈ l.list,SameB (stB x)∧SameB (stE x)):SameB l:=by
 intro m A B c c' S S' w h1 h2 hS hS'
 have hcl:=h1.cap
 have hcm:=h2.cap
 have HIH:=Lib.hid ih
 clear ih
 by_cases hne:l.len=m.len
 ·obtain ⟨n,hn⟩: ∃n,l.len=n:=⟨_,rfl⟩
  have hn2:m.len=n:=by omega
  have HN:Hid (l.list.length=n):=Lib.hid (by rw [Sts.list_len];exact hn)
  have HN2:Hid (m.list.length=n):=Lib.hid (by rw [Sts.list_len];exact hn2)
  rw [hn]at hcl
  rw [hn2]at hcm
  rw [hn,hn2]
  clear hn hn2 hne
  have H1:=Lib.hid h1
  have H2:=Lib.hid h2
  have HS:=Lib.hid hS
  have HS':=Lib.hid hS'
  clear h1 h2 hS hS'
  go_enter Tryz.func25,Tryz.ntmps25
  go_wp2_with fail
  go_loopw [6,17] (fun _ i wr=> ∃k:Nat,k≤n∧i= .int .i64 k∧Hid (l.list.take k=m.list.take k)∧Below w.heap.size w wr) (fun _ i _=> n - (intOf i).toNat)
  case atStart=> exact ⟨0,by omega,rfl,Lib.hid (by simp),Below.refl _ _⟩
  case round=>
   obtain ⟨k,hk,rfl,H,hb⟩:=hrel
   by_cases hlt:k < n
   ·have hlt':k < l.list.length:=by rw [HN.out];exact hlt
    have hlt2:k < m.list.length:=by rw [HN2.out];exact hlt
    have hki:(k:Int) < (n:Int):=by omega
    obtain ⟨b1,off1,A1,c1,B1,d1,E1,f1,p1,q1,r1,⟨rfl,hb1⟩,hc1,ga1,gb1,ge1⟩:=(H1.out.keep (w':=wr) fun b hB=> hb.block b (HS.out b hB)).at_ HS.out hlt'
    obtain ⟨b2,off2,A2,c2,B2,d2,E2,f2,p2,q2,r2,⟨rfl,hb2⟩,hc2,ga2,gb2,ge2⟩:=(H2.out.keep (w':=wr) fun b hB=> hb.block b (HS'.out b hB)).at_ HS'.out hlt2
    have hst:=Lib.hid (take_same hlt' hlt2 H.out)
    have hno:=Lib.hid (ne_at hlt' hlt2)
    have hih:=Lib.hid (HIH.out _ (List.getElem_mem hlt'))
    have GA1:=Lib.hid ga1
    have GA2:=Lib.hid ga2
    have GB1:=Lib.hid gb1
    have GB2:=Lib.hid gb2
    have GE1:=Lib.hid ge1
    have GE2:=Lib.hid ge2
    have hL1:=stA_len l.list[k]
    have hL2:=stA_len m.list[k]
    have hx:=Lib.hid (st_ext (x:=l.list[k]) (y:=m.list[k]))
    clear ga1 ga2 gb1 gb2 ge1 ge2
    have hz:=hb.size
    have hbw1:b1 < wr.heap.size:=by omega
    have hbw2:b2 < wr.heap.size:=by omega
    generalize l.list[k]=x at *
    generalize m.list[k]=y at *
    have HNO:Hid (¬(((stK x=stK y∧stN x=stN y)∧(stT x=stT y∧stC x=stC y)∧stI x=stI y)∧stA x=stA y∧stB x=stB y∧stE x=stE y)→l≠m):=Lib.hid fun h e=> hno.out (fun e=> h (hx.out.1 e)) (by rw [e])
    have HYES:Hid (((stK x=stK y∧stN x=stN y)∧(stT x=stT y∧stC x=stC y)∧stI x=stI y)∧stA x=stA y∧stB x=stB y∧stE x=stE y→l.list.take (k+1)=m.list.take (k+1)):=Lib.hid fun h=> hst.out (hx.out.2 h)
    clear hno hst hx
    unfold stV at hc1 hc2
    generalize stK x=xk at *
    generalize stK y=yk at *
    generalize stN x=xn at *
    generalize stN y=yn at *
    generalize stT x=xt at *
    generalize stT y=yt at *
    generalize stC x=xc at *
    generalize stC y=yc at *
    generalize stI x=xi at *
    generalize stI y=yi at *
    generalize stA x=xa at *
    generalize stA y=ya at *
    generalize stB x=xb at *
    generalize stB y=yb at *
    generalize stE x=xe at *
    generalize stE y=ye at *
    have xy0:wr.cell? ⟨b1,off1+k * 11,none⟩=some (nv xk):=hc1 0 (by omega)
    have xy1:wr.cell? ⟨b1,off1+k * 11+1,none⟩=some (sv xn):=hc1 1 (by omega)
    have xy2:wr.cell? ⟨b1,off1+k * 11+2,none⟩=some (sv xt):=hc1 2 (by omega)
    have xy3:wr.cell? ⟨b1,off1+k * 11+3,none⟩=some (sv xc):=hc1 3 (by omega)
    have xy4:wr.cell? ⟨b1,off1+k * 11+4,none⟩=some (nv xi):=hc1 4 (by omega)
    have xy5:wr.cell? ⟨b1,off1+k * 11+5,none⟩=some (.slice A1 xa.length c1):=hc1 5 (by omega)
    have xy6:wr.cell? ⟨b1,off1+k * 11+6,none⟩=some (.slice B1 xb.len d1):=hc1 6 (by omega)
    have xy7:wr.cell? ⟨b1,off1+k * 11+7,none⟩=some (.slice E1 xe.len f1):=hc1 7 (by omega)
    have xy8:wr.cell? ⟨b1,off1+k * 11+8,none⟩=some (nv p1):=hc1 8 (by omega)
    have xy9:wr.cell? ⟨b1,off1+k * 11+9,none⟩=some (nv q1):=hc1 9 (by omega)
    have xy10:wr.cell? ⟨b1,off1+k * 11+10,none⟩=some (nv r1):=hc1 10 (by omega)
    have yy0:wr.cell? ⟨b2,off2+k * 11,none⟩=some (nv yk):=hc2 0 (by omega)
    have yy1:wr.cell? ⟨b2,off2+k * 11+1,none⟩=some (sv yn):=hc2 1 (by omega)
    have yy2:wr.cell? ⟨b2,off2+k * 11+2,none⟩=some (sv yt):=hc2 2 (by omega)
    have yy3:wr.cell? ⟨b2,off2+k * 11+3,none⟩=some (sv yc):=hc2 3 (by omega)
    have yy4:wr.cell? ⟨b2,off2+k * 11+4,none⟩=some (nv yi):=hc2 4 (by omega)
    have yy5:wr.cell? ⟨b2,off2+k * 11+5,none⟩=some (.slice A2 ya.length c2):=hc2 5 (by omega)
    have yy6:wr.cell? ⟨b2,off2+k * 11+6,none⟩=some (.slice B2 yb.len d2):=hc2 6 (by omega)
    have yy7:wr.cell? ⟨b2,off2+k * 11+7,none⟩=some (.slice E2 ye.len f2):=hc2 7 (by omega)
    have yy8:wr.cell? ⟨b2,off2+k * 11+8,none⟩=some (nv p2):=hc2 8 (by omega)
    have yy9:wr.cell? ⟨b2,off2+k * 11+9,none⟩=some (nv q2):=hc2 9 (by omega)
    have yy10:wr.cell? ⟨b2,off2+k * 11+10,none⟩=some (nv r2):=hc2 10 (by omega)
    clear hc1 hc2 H
    by_cases e0:xk=yk
    ·subst e0
     by_cases e1:xn=yn
     ·subst e1
      have s1:=fun w=> sneq_no xn w
      by_cases e2:xt=yt
      ·subst e2
       have s2:=fun w=> sneq_no xt w
       by_cases e3:xc=yc
       ·subst e3
        have s3:=fun w=> sneq_no xc w
        by_cases e4:xi=yi
        ·subst e4
         have D0:Below wr.heap.size wr ((wr.alloc (.cells #[nv xk,sv xn,sv xt,sv xc,nv xi,.slice A1 xa.length c1,.slice B1 xb.len d1,.slice E1 xe.len f1,nv p1,nv q1,nv r1] 44)).alloc (.cells #[nv xk,sv xn,sv xt,sv xc,nv xi,.slice A2 ya.length c2,.slice B2 yb.len d2,.slice E2 ye.len f2,nv p2,nv q2,nv r2] 44)):=by repeat (first | exact Below.refl _ _ | refine Below.alloc ?_ (by first | omega | (simp <;> omega)) _)
         go_upto_region 10 with fail
         obtain ⟨w2,hw2⟩: ∃W,(wr.alloc (.cells #[nv xk,sv xn,sv xt,sv xc,nv xi,.slice A1 xa.length c1,.slice B1 xb.len d1,.slice E1 xe.len f1,nv p1,nv q1,nv r1] 44)).alloc (.cells #[nv xk,sv xn,sv xt,sv xc,nv xi,.slice A2 ya.length c2,.slice B2 yb.len d2,.slice E2 ye.len f2,nv p2,nv q2,nv r2] 44)=W:=⟨_,rfl⟩
         have X1:Hid (w2.heap[wr.heap.size]? =some (.cells #[nv xk,sv xn,sv xt,sv xc,nv xi,.slice A1 xa.length c1,.slice B1 xb.len d1,.slice E1 xe.len f1,nv p1,nv q1,nv r1] 44 (0,0))):=Lib.hid (by rw [← hw2];exact alloc_old' (alloc_at rfl))
         have X2:Hid (w2.heap[wr.heap.size+1]? =some (.cells #[nv xk,sv xn,sv xt,sv xc,nv xi,.slice A2 ya.length c2,.slice B2 yb.len d2,.slice E2 ye.len f2,nv p2,nv q2,nv r2] 44 (0,0))):=Lib.hid (by rw [← hw2];exact alloc_at (by simp))
         rw [hw2]at D0⊢
         clear hw2
         have hzd:=D0.size
         clear xy0 xy1 xy2 xy3 xy4 xy5 xy6 xy7 xy8 xy9 xy10 yy0 yy1 yy2 yy3 yy4 yy5 yy6 yy7 yy8 yy9 yy10
         obtain ⟨⟨⟨⟨u0,u1⟩,u2,u3⟩,⟨u4,u5⟩,u6,u7⟩,⟨u8,u9⟩,u10⟩:=cells11 X1.out
         obtain ⟨⟨⟨⟨z0,z1⟩,z2,z3⟩,⟨z4,z5⟩,z6,z7⟩,⟨z8,z9⟩,z10⟩:=cells11 X2.out
         go_wp2_with fail
         refine (sameR_any xa ya A1 A2 c1 c2 S S' w2 (GA1.out.keep fun b hB=> D0.block b (by have:=HS.out b hB;omega)) (GA2.out.keep fun b hB=> D0.block b (by have:=HS'.out b hB;omega)) (fun b hB=> by have:=HS.out b hB;omega) (fun b hB=> by have:=HS'.out b hB;omega) (by omega) (by omega)).mono ?_
         rintro e w5 ⟨⟨g1,rfl,hg1⟩,b5⟩
         have HG1:=Lib.hid hg1
         clear hg1
         have D5:=bthen D0 b5
         have hz5:=D5.size
         have B5:Below w.heap.size w w5:=hb.trans (D5.mono hb.size)
         replace X1:=Lib.hid (box_next X1.out b5)
         replace X2:=Lib.hid (box_next X2.out b5)
         clear b5 u0 u1 u2 u3 u4 u5 u6 u7 u8 u9 u10 z0 z1 z2 z3 z4 z5 z6 z7 z8 z9 z10
         obtain ⟨⟨⟨⟨u0,u1⟩,u2,u3⟩,⟨u4,u5⟩,u6,u7⟩,⟨u8,u9⟩,u10⟩:=cells11 X1.out
         obtain ⟨⟨⟨⟨z0,z1⟩,z2,z3⟩,⟨z4,z5⟩,z6,z7⟩,⟨z8,z9⟩,z10⟩:=cells11 X2.out
         cases g1 with
         | false=>
          go_wp2_with fail
          go_ret
          refine ⟨⟨false,rfl,?_⟩,B5⟩
          have:=HNO.out (by have:=HG1.out;simp at this;simp [this])
          simp [this]
         | true=>
          go_wp2_with fail
          refine (hih.out.1 yb B1 B2 d1 d2 S S' w5 (GB1.out.keep fun b hB=> D5.block b (by have:=HS.out b hB;omega)) (GB2.out.keep fun b hB=> D5.block b (by have:=HS'.out b hB;omega)) (fun b hB=> by have:=HS.out b hB;omega) (fun b hB=> by have:=HS'.out b hB;omega)).mono ?_
          rintro e w6 ⟨⟨g2,rfl,hg2⟩,b6⟩
          have HG2:=Lib.hid hg2
          clear hg2
          have D6:=bthen D5 b6
          have hz6:=D6.size
          have B6:Below w.heap.size w w6:=hb.trans (D6.mono hb.size)
          replace X1:=Lib.hid (box_next X1.out b6)
          replace X2:=Lib.hid (box_next X2.out b6)
          clear b6 u0 u1 u2 u3 u4 u5 u6 u7 u8 u9 u10 z0 z1 z2 z3 z4 z5 z6 z7 z8 z9 z10
          obtain ⟨⟨⟨⟨u0,u1⟩,u2,u3⟩,⟨u4,u5⟩,u6,u7⟩,⟨u8,u9⟩,u10⟩:=cells11 X1.out
          obtain ⟨⟨⟨⟨z0,z1⟩,z2,z3⟩,⟨z4,z5⟩,z6,z7⟩,⟨z8,z9⟩,z10⟩:=cells11 X2.out
          cases g2 with
          | false=>
           go_wp2_with fail
           go_ret
           refine ⟨⟨false,rfl,?_⟩,B6⟩
           have:=HNO.out (by have:=HG2.out;simp at this;simp [this])
           simp [this]
          | true=>
           go_wp2_with fail
           refine (hih.out.2 ye E1 E2 f1 f2 S S' w6 (GE1.out.keep fun b hB=> D6.block b (by have:=HS.out b hB;omega)) (GE2.out.keep fun b hB=> D6.block b (by have:=HS'.out b hB;omega)) (fun b hB=> by have:=HS.out b hB;omega) (fun b hB=> by have:=HS'.out b hB;omega)).mono ?_
           rintro e w7 ⟨⟨g3,rfl,hg3⟩,b7⟩
           have HG3:=Lib.hid hg3
           clear hg3
           have D7:=bthen D6 b7
           have B7:Below w.heap.size w w7:=hb.trans (D7.mono hb.size)
           clear b7
           cases g3 with
           | false=>
            go_wp2_with fail
            go_ret
            refine ⟨⟨false,rfl,?_⟩,B7⟩
            have:=HNO.out (by have:=HG3.out;simp at this;simp [this])
            simp [this]
           | true=>
            have hyes:=HYES.out (by have h1:=HG1.out;have h2:=HG2.out;have h3:=HG3.out;simp at h1 h2 h3;simp [h1,h2,h3])
            have HY:=Lib.hid hyes
            clear hyes
            go_wp2_with fail
            go_roundw
            case rel=> exact ⟨k+1,by omega,by go_num,HY,B7⟩
            case measure=> simp [intOf];omega
        ·have d4:(xi !=yi)=true:=by simpa using e4
         go_wp2_with fail
         go_ret
         refine ⟨⟨false,rfl,?_⟩,?_⟩
         ·have:=HNO.out (fun h=> e4 h.1.2.2)
          simp [this]
         ·repeat (first | (with_reducible exact hb) | refine Below.alloc ?_ (by first | omega | (simp <;> omega)) _)
       ·have s3:=fun w=> sneq_yes e3 w
        go_wp2_with fail
        go_ret
        refine ⟨⟨false,rfl,?_⟩,?_⟩
        ·have:=HNO.out (fun h=> e3 h.1.2.1.2)
         simp [this]
        ·repeat (first | (with_reducible exact hb) | refine Below.alloc ?_ (by first | omega | (simp <;> omega)) _)
      ·have s2:=fun w=> sneq_yes e2 w
       go_wp2_with fail
       go_ret
       refine ⟨⟨false,rfl,?_⟩,?_⟩
       ·have:=HNO.out (fun h=> e2 h.1.2.1.1)
        simp [this]
       ·repeat (first | (with_reducible exact hb) | refine Below.alloc ?_ (by first | omega | (simp <;> omega)) _)
     ·have s1:=fun w=> sneq_yes e1 w
      go_wp2_with fail
      go_ret
      refine ⟨⟨false,rfl,?_⟩,?_⟩
      ·have:=HNO.out (fun h=> e1 h.1.1.2)
       simp [this]
      ·repeat (first | (with_reducible exact hb) | refine Below.alloc ?_ (by first | omega | (simp <;> omega)) _)
    ·have d0:(xk !=yk)=true:=by simpa using e0
     go_wp2_with fail
     go_ret
     refine ⟨⟨false,rfl,?_⟩,?_⟩
     ·have:=HNO.out (fun h=> e0 h.1.1.1)
      simp [this]
     ·repeat (first | (with_reducible exact hb) | refine Below.alloc ?_ (by first | omega | (simp <;> omega)) _)
   ·obtain rfl:k=n:=by omega
    have hall:l=m:=by
     have:=H.out
     rw [List.take_of_length_le (by rw [HN.out];exact Nat.le_refl _),List.take_of_length_le (by rw [HN2.out];exact Nat.le_refl _)]at this
     exact list_inj this
    go_wp2_with fail
    go_ret
    exact ⟨⟨true,rfl,by simp [hall]⟩,hb⟩
 ·have hr:Hid (l≠m):=Lib.hid (fun e=> hne (by rw [e]))
  have d1:((l.len:Int) !=(m.len:Int))=true:=by simp;omega
  clear h1 h2
  go_enter Tryz.func25,Tryz.ntmps25
  go_wp2_with fail
  go_ret
  exact ⟨⟨false,rfl,by simp [hr.out]⟩,Below.refl _ _⟩
theorem sameB_any: ∀b:Sts,SameB b:=fun b=>
 (Sts.indM (P:=fun s=> SameB (stB s)∧SameB (stE s)) (Q:=fun b=> (∀x ∈ b.list,SameB (stB x)∧SameB (stE x))∧SameB b)
  (fun s h1 h2=> ⟨h1.2,h2.2⟩)
  ⟨fun x hx=> (by cases hx),sameB_step .nil (fun x hx=> (by cases hx))⟩
  (fun s r h1 h2=> by
   have h: ∀x ∈ (Sts.cons s r).list,SameB (stB x)∧SameB (stE x):=fun x hx=> by
    rcases List.mem_cons.1 hx with rfl | hx
    ·exact h1
    ·exact h2.1 x hx
   exact ⟨h,sameB_step _ h⟩) b).2
end Go.Proofs.YtnbmpfdffoidaaaGreatDoor.Y
namespace Go.Proofs.YtnbmpfdffoidaaaGreatDoor.Y
open Go.RowKit O V S X
def HasX (G:Prop)(lo:Nat)(A:Option Addr)(n c:Nat)(l:List Ex)(V:World):Prop:=G→l.length=n∧∃S,RX V S A c l∧In lo V S
def HasB (G:Prop)(lo:Nat)(A:Option Addr)(n c:Nat)(b:Sts)(V:World):Prop:=G→b.len=n∧∃S,RS V S A c b∧In lo V S
def HasS (G:Prop)(lo:Nat)(s:St)(vs:List Value)(V:World):Prop:=G→∃S,StR V S s vs∧In lo V S
section
variable {G G':Prop} {lo lo' n c:Nat} {A:Option Addr} {V V':World} {bs:List Nat}
theorem HasX.mod {l:List Ex}(m:Mod bs V V')(hb: ∀b ∈ bs,b < lo)(h:HasX G lo A n c l V):HasX G lo A n c l V':=fun g=> by
 obtain ⟨e,S,h1,h2⟩:=h g
 exact ⟨e,S,h1.keep (h2.keeps m hb),h2.next m.size⟩
theorem HasB.mod {l:Sts}(m:Mod bs V V')(hb: ∀b ∈ bs,b < lo)(h:HasB G lo A n c l V):HasB G lo A n c l V':=fun g=> by
 obtain ⟨e,S,h1,h2⟩:=h g
 exact ⟨e,S,h1.keep (h2.keeps m hb),h2.next m.size⟩
theorem HasS.mod {s:St}{vs:List Value}(m:Mod bs V V')(hb: ∀b ∈ bs,b < lo)(h:HasS G lo s vs V):HasS G lo s vs V':=fun g=> by
 obtain ⟨S,h1,h2⟩:=h g
 exact ⟨S,StR.keep (h2.keeps m hb) _ _ h1,h2.next m.size⟩
theorem HasX.imp {l:List Ex}(h:HasX G lo A n c l V)(hg:G'→G):HasX G' lo A n c l V:=fun g=> h (hg g)
theorem HasB.imp {l:Sts}(h:HasB G lo A n c l V)(hg:G'→G):HasB G' lo A n c l V:=fun g=> h (hg g)
theorem HasX.nil_:HasX G lo none 0 0 [] V:=fun _=> ⟨rfl,fun _=> False,⟨[],Row.nil_,rfl⟩,fun _ h=> h.elim⟩
theorem HasB.nil_:HasB G lo none 0 0 .nil V:=fun _=> ⟨rfl,fun _=> False,⟨[],Row.nil_,(StsR_nil _).2 rfl⟩,fun _ h=> h.elim⟩
theorem HasS.mk {s:St}{m mb d me f:Nat}{B E:Option Addr}{p q r:Int}(hA:HasX G lo A m c (stA s) V)(hB:HasB G lo B mb d (stB s) V)(hE:HasB G lo E me f (stE s) V):HasS G lo s (stV s (.slice A m c) (.slice B mb d) (.slice E me f) p q r) V:=fun g=> by
 obtain ⟨rfl,S1,⟨es,h1,h2⟩,i1⟩:=hA g
 obtain ⟨rfl,S2,⟨bs,h3,h4⟩,i2⟩:=hB g
 obtain ⟨rfl,S3,⟨fs,h5,h6⟩,i3⟩:=hE g
 refine ⟨fun b=> S1 b∨S2 b∨S3 b,(StR_eq _ _).2 ⟨_,_,es,_,_,bs,_,_,fs,p,q,r,rfl,⟨h1.mono fun _ h=> .inl h,h2.imp fun x us=> ExR.mono (fun _ h=> .inl h) x us⟩,⟨h3.mono fun _ h=> .inr (.inl h),StsR.mono (fun _ h=> .inr (.inl h)) _ _ h4⟩,h5.mono fun _ h=> .inr (.inr h),StsR.mono (fun _ h=> .inr (.inr h)) _ _ h6⟩,fun b hb=> hb.elim (i1 b) fun h=> h.elim (i2 b) (i3 b)⟩
end
abbrev smL (k:Int)(nm tt cc:List UInt8)(n:Int)(a b e:Value)(p q r:Int):List Value:=[nv k,sv nm,sv tt,sv cc,nv n,a,b,e,nv p,nv q,nv r]
abbrev smX (k:Int)(nm tt cc:List UInt8)(n:Int)(a b e:Value)(p q r:Int):Obj:= .cells #[nv k,sv nm,sv tt,sv cc,nv n,a,b,e,nv p,nv q,nv r] 44 (0,0)
abbrev smA (k:Int)(nm tt cc:List UInt8)(n:Int)(a b e:Value)(p q r:Int):Obj:= .cells #[nv k,sv nm,sv tt,sv cc,nv n,a,b,e,nv p,nv q,nv r] 44
def SmQ (g:Nat)(ms:List Nat)(b:Nat)(p0:World→Prop)(w:World)(σ:Sg)(line:Bool)(W:World):Prop:= ∃(k:Int) (nm tt cc:List UInt8) (n:Int) (A:Option Addr) (m c:Nat) (B:Option Addr) (mb d:Nat) (E:Option Addr) (me f:Nat) (p q r:Int) (s:St) (σ':Sg) (x:Nat),
 Hid (Fr g ms w W σ' (Bx g b (smX k nm tt cc n (.slice A m c) (.slice B mb d) (.slice E me f) p q r) (fun V=> p0 V∧HasS (σ'≠none) (b+1) s (smL k nm tt cc n (.slice A m c) (.slice B mb d) (.slice E me f) p q r) V)))∧
 Hid (Eat σ σ' x∧Y.W 1 (toksS s)≤x+(if line then 2 else 0))∧Hid (σ'≠none→okS s)
def BlockR (σ:Sg)(g:Nat)(w:World)(e:Ending)(w':World):Prop:= ∃A n c b σ',e= .returned (.slice A n c)∧ST w' g σ'∧Mod [g] w w'∧Eat σ σ' (4+W 1 (toksB b))∧(σ'≠none→okB b∧b.len≤24)∧HasB (σ'≠none) w.heap.size A n c b w'
def StmtR (σ:Sg)(g:Nat)(w:World)(e:Ending)(w':World):Prop:= ∃(k:Int) (nm tt cc:List UInt8) (n:Int) (A:Option Addr) (m c:Nat) (B:Option Addr) (mb d:Nat) (E:Option Addr) (me f:Nat) (p q r:Int) (s:St) (σ':Sg),
 e= .returned (.agg #[nv k,sv nm,sv tt,sv cc,nv n,.slice A m c,.slice B mb d,.slice E me f,nv p,nv q,nv r])∧ST w' g σ'∧Mod [g] w w'∧Eat σ σ' (W 1 (toksS s))∧(σ'≠none→okS s)∧HasS (σ'≠none) w.heap.size s (smL k nm tt cc n (.slice A m c) (.slice B mb d) (.slice E me f) p q r) w'
def BlockC (f:Nat):Prop:= ∀(σ:Sg) (w:World) (g:Nat),ST w g σ→lenS σ < f→Calls Tryz.prog 69 #[.pointer (some ⟨g,0,none⟩)] w (BlockR σ g w)
def StmtC (f:Nat):Prop:= ∀(σ:Sg) (w:World) (g:Nat),ST w g σ→lenS σ < f→Calls Tryz.prog 122 #[.pointer (some ⟨g,0,none⟩)] w (StmtR σ g w)
section
variable {g b:Nat} {ms:List Nat} {w W:World} {σ:Sg} {p q:World→Prop} {cs:Array Value} {T:TypeId}
theorem Fr.pass (F:Hid (Fr g ms w W σ p)){s:List UInt8}(hs:s≠[])(h:txS σ=s): ∃i:Nat,((W.cell? ⟨g,1,none⟩=some (nv i)∧W.frozen? ⟨g,1,none⟩=false)∧i < 100000)∧Hid (Fr g ms w (W.setCell ⟨g,1,none⟩ (nv ((i:Int)+1))) (adv σ) p)∧Hid (Eat σ (adv σ) (s.length+1))∧lenS (adv σ) < lenS σ:=by
 obtain ⟨d,t,l,rfl,ht⟩:=txS_pos h hs
 obtain ⟨A,n,c,i,a,b,x,y,z,r,h1,h2,h3⟩:=F.out.inc
 refine ⟨i,⟨⟨by rw [Lib.cell_of_heap h1];rfl,Lib.frozen_of_heap h1 1⟩,h2⟩,h3,Lib.hid fun d' r' e=> ?_,by simp [adv,lenS]⟩
 injection e with e
 injection e with e1 e2
 subst e1 e2
 exact ⟨_,rfl,by simp,by rw [W_cons,(tkT_W ht hs).1];omega⟩
theorem set_alloc {W:World}{b i:Nat}(hb:b < W.heap.size)(v:Value)(o:Obj):(W.alloc o).setCell ⟨b,i,none⟩ v=(W.setCell ⟨b,i,none⟩ v).alloc o:=by
 unfold World.setCell World.alloc
 simp only [World.mk.injEq,and_true]
 refine Array.ext_getElem? fun k=> ?_
 simp only [Array.getElem?_modify,Array.getElem?_push,Array.size_modify]
 by_cases h1:k=W.heap.size
 ·subst h1
  simp [show ¬b=W.heap.size by omega]
 ·simp [h1]
theorem Fr.arg1 {fn:Nat}{args:Array Value}{lvl more:Nat}{v:Value}(hC:Calls Tryz.prog fn args W (XR lvl more σ g W))(F:Hid (Fr g ms w W σ (Bx g b (.cells cs T (0,0)) q)))(hb:b ∈ ms∨w.heap.size≤b)(h5:cs[5]? =some v):
  Calls Tryz.prog fn args W fun e W'=> ∃(k vk vn:Int) (vs nm cc:List UInt8) (o:Int) (A:Option Addr) (m c:Nat) (x y z:Int) (σ':Sg) (t:Ex),e= .returned (exVal k vk vn vs nm cc o (.slice A m c) x y z)∧((W'.cell? ⟨b,5,none⟩=some v∧W'.frozen? ⟨b,5,none⟩=false)∧b < W'.heap.size)∧
   Hid (Fr g ms w ((W'.setCell ⟨b,5,none⟩ (.slice (some ⟨W'.heap.size,0,none⟩) 1 1)).alloc (exO k vk vn vs nm cc o (.slice A m c) x y z)) σ' (Bx g b (.cells (cs.setIfInBounds 5 (.slice (some ⟨W'.heap.size,0,none⟩) 1 1)) T (0,0)) (fun V=> q V∧HasX (σ'≠none) (b+1) (some ⟨W'.heap.size,0,none⟩) 1 1 [t] V)))∧Hid (Eat σ σ' (Y.W 1 (toksX t lvl)+more))∧Hid (σ'≠none→okX t):=by
 refine hC.mono fun e W' h=> ?_
 obtain ⟨k,vk,vn,vs,nm,cc,o,A,m,c,x,y,z,σ',t,rfl,⟨F8,m8⟩,E,N,T8⟩:=h.fr F.out
 have hbW:=(Array.getElem?_eq_some_iff.1 F.out.p.x).1
 have hg:=F.out.p.ne
 have h8:=m8.size
 refine ⟨k,vk,vn,vs,nm,cc,o,A,m,c,x,y,z,σ',t,rfl,⟨F8.out.p.cf 5 h5,by omega⟩,?_,E,N⟩
 rw [← set_alloc (by omega)]
 have F9:=(F8.out.next (one_new (o:=exO k vk vn vs nm cc o (.slice A m c) x y z))).out.set 5 (.slice (some ⟨W'.heap.size,0,none⟩) 1 1) hb rfl
 refine F9.out.as (fun V V' M h=> ⟨F8.out.p.qs _ _ M h.1,h.2.mod M (fun j hj=> by simp at hj;omega)⟩) ⟨F9.out.p.q,fun hs=> ⟨rfl,?_⟩⟩
 obtain ⟨S,h1,h2⟩:=T8.out hs
 have hz:((W'.alloc (exO k vk vn vs nm cc o (.slice A m c) x y z)).setCell ⟨b,5,none⟩ (.slice (some ⟨W'.heap.size,0,none⟩) 1 1)).heap[W'.heap.size]? =some (exB k vk vn vs nm cc o (.slice A m c) x y z):=(Below.heap_setCell _ _ _ _ (by simp only;omega)).trans (alloc_at rfl)
 refine ⟨fun j=> S j∨j=W'.heap.size,⟨_,Row.of_block hz (.inr rfl) rfl (by simp) (by simp),Reps.one (ExR.mono (fun _ h=> .inl h) _ _ (ExR.keep (fun j hj=> (Below.heap_setCell _ _ _ _ (by have:=(h2 j hj).1;simp only;omega)).trans (Below.heap_alloc _ _ _ (h2 j hj).2)) _ _ h1))⟩,fun j hj=> ?_⟩
 rcases hj with hj | rfl
 ·have:=h2 j hj
  simp
  omega
 ·simp
  omega
theorem Fr.blk {f:Nat}(HB:BlockC f)(F:Hid (Fr g ms w W σ (Bx g b (.cells cs T (0,0)) q)))(hb:b ∈ ms∨w.heap.size≤b)(i:Nat){v:Value}(hi:cs[i]? =some v)(hf:lenS σ < f):
  Calls Tryz.prog 69 #[.pointer (some ⟨g,0,none⟩)] W fun e W'=> ∃(A:Option Addr) (n c:Nat) (t:Sts) (σ':Sg),e= .returned (.slice A n c)∧((W'.cell? ⟨b,i,none⟩=some v∧W'.frozen? ⟨b,i,none⟩=false)∧b < W'.heap.size)∧
   Hid (Fr g ms w (W'.setCell ⟨b,i,none⟩ (.slice A n c)) σ' (Bx g b (.cells (cs.setIfInBounds i (.slice A n c)) T (0,0)) (fun V=> q V∧HasB (σ'≠none) (b+1) A n c t V)))∧Hid (Eat σ σ' (4+Y.W 1 (toksB t)))∧Hid (σ'≠none→okB t∧t.len≤24):=by
 refine (HB σ W g F.out.s hf).mono fun e W' h=> ?_
 obtain ⟨A,n,c,t,σ',rfl,h1,m8,E,N,P⟩:=h
 have F8:=F.out.mod m8 h1
 have hbW:=(Array.getElem?_eq_some_iff.1 F.out.p.x).1
 have hg:=F.out.p.ne
 have h8:=m8.size
 refine ⟨A,n,c,t,σ',rfl,⟨F8.out.p.cf i hi,by omega⟩,?_,Lib.hid E,Lib.hid N⟩
 have F9:=F8.out.set i (.slice A n c) hb rfl
 refine F9.out.as (fun V V' M h=> ⟨F8.out.p.qs _ _ M h.1,h.2.mod M (fun j hj=> by simp at hj;omega)⟩) ⟨F9.out.p.q,HasB.mod (bs:=[b]) ((Mod.refl _ _).set (.inl (by simp)) _) (fun j hj=> by simp at hj;omega) fun hs=> ?_⟩
 obtain ⟨h2,S,h3,h4⟩:=P hs
 exact ⟨h2,S,h3,h4.more (by omega)⟩
end
end Go.Proofs.YtnbmpfdffoidaaaGreatDoor.Y
