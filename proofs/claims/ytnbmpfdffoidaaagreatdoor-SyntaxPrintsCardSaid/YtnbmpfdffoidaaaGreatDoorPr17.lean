/- Texts of the proof, joined: RfQ, LexRefS. -/
import Derived.Test.YtnbmpfdffoidaaaGreatDoorPr03
import Derived.Test.YtnbmpfdffoidaaaGreatDoorPr16
set_option linter.unusedVariables false
set_option linter.unusedSimpArgs false
set_option maxHeartbeats 8000000
set_option maxRecDepth 100000
namespace Go.Proofs.YtnbmpfdffoidaaaGreatDoor.Y
open Go.RowKit O V S X
theorem cells6F {W:World}{g:Nat}{a b c d e f:Value}{T:TypeId}(h:W.heap[g]? =some (.cells #[a,b,c,d,e,f] T (0,0))):
  ((W.cell? ⟨g,0,none⟩=some a∧W.cell? ⟨g,1,none⟩=some b)∧W.cell? ⟨g,2,none⟩=some c∧W.cell? ⟨g,3,none⟩=some d)∧W.cell? ⟨g,4,none⟩=some e∧W.cell? ⟨g,5,none⟩=some f:=by
 refine ⟨⟨⟨?_,?_⟩,?_,?_⟩,?_,?_⟩ <;> (rw [Lib.cell_of_heap h];rfl)
theorem frozen6F {W:World}{g:Nat}{cs:Array Value}{T:TypeId}(h:W.heap[g]? =some (.cells cs T (0,0))):
  ((W.frozen? ⟨g,0,none⟩=false∧W.frozen? ⟨g,1,none⟩=false)∧W.frozen? ⟨g,2,none⟩=false∧W.frozen? ⟨g,3,none⟩=false)∧W.frozen? ⟨g,4,none⟩=false∧W.frozen? ⟨g,5,none⟩=false:=
 ⟨⟨⟨Lib.frozen_of_heap h 0,Lib.frozen_of_heap h 1⟩,Lib.frozen_of_heap h 2,Lib.frozen_of_heap h 3⟩,Lib.frozen_of_heap h 4,Lib.frozen_of_heap h 5⟩
def set6 (w:World)(b:Nat)(x0 x1 x2 x3 x4 x5:Value):World:=(((((w.setCell ⟨b,0,none⟩ x0).setCell ⟨b,1,none⟩ x1).setCell ⟨b,2,none⟩ x2).setCell ⟨b,3,none⟩ x3).setCell ⟨b,4,none⟩ x4).setCell ⟨b,5,none⟩ x5
theorem set6_box {w:World}{b:Nat}{T:TypeId}{u0 u1 u2 u3 u4 u5:Value}(x0 x1 x2 x3 x4 x5:Value)(h:w.heap[b]? =some (.cells #[u0,u1,u2,u3,u4,u5] T (0,0))):
  (set6 w b x0 x1 x2 x3 x4 x5).heap[b]? =some (.cells #[x0,x1,x2,x3,x4,x5] T (0,0))∧Mod [b] w (set6 w b x0 x1 x2 x3 x4 x5):=
 ⟨heap_set (i:=5) (heap_set (i:=4) (heap_set (i:=3) (heap_set (i:=2) (heap_set (i:=1) (heap_set (i:=0) h x0) x1) x2) x3) x4) x5,
  ((((((Mod.refl _ _).set (.inl (by simp)) _).set (.inl (by simp)) _).set (.inl (by simp)) _).set (.inl (by simp)) _).set (.inl (by simp)) _).set (.inl (by simp)) _⟩
theorem W_ps: ∀(a:List Cl) (c:Cl),W 1 (toksPs (a ++ [c]))=W 1 (toksPs a)+(if a=[]then 0 else 2)+W 1 (toksC c)
 | [],c=> by simp [toksPs,W_nil]
 | x::a,c=> by
  show W 1 (toksC x ++(a ++ [c]).flatMap fun c=> tg [44]::toksC c)=W 1 (toksC x ++a.flatMap fun c=> tg [44]::toksC c)+_+_
  rw [List.flatMap_append,W_app,W_app,W_app]
  simp [W_cons,cw_g,W_nil]
  omega
abbrev pcX (n:List UInt8)(a b:Value)(p q r:Int):Obj:= .cells #[sv n,a,b,nv p,nv q,nv r] 41 (0,0)
abbrev pcO (n:List UInt8)(a b:Value)(p q r:Int):Obj:= .cells #[sv n,a,b,nv p,nv q,nv r] 41
def ProcR (σ:Sg)(g:Nat)(w:World)(e:Ending)(w':World):Prop:= ∃n A m c B d k p q r x σ',e= .returned (.agg #[sv n,.slice A m c,.slice B d k,nv p,nv q,nv r])∧ST w' g σ'∧Mod [g] w w'∧Eat σ σ' (W 1 (toksP x))∧(σ'≠none→okPw x)∧
 (σ'≠none→∃S,PcR w' S x [sv n,.slice A m c,.slice B d k,nv p,nv q,nv r]∧In w.heap.size w' S)
theorem f_proc (σ:Sg)(w:World)(g:Nat)(h:ST w g σ):Calls Tryz.prog 31 #[.pointer (some ⟨g,0,none⟩)] w (ProcR σ g w):=by
 have hlt:=h.lt
 go_enter Tryz.func31,Tryz.ntmps31
 go_upto_region 1 with fail
 have F1:Hid (Fr g [g] w (w.alloc (pcO [] (.slice none 0 0) (.slice none 0 0) 0 0 0)) σ (fun V=> V.heap[w.heap.size]? =some (pcX [] (.slice none 0 0) (.slice none 0 0) 0 0 0))):=Lib.hid ⟨by simp,fun _ _ m h=> m.box h (by simp;omega),(Mod.refl _ _).alloc _,h.next ((Below.refl _ _).alloc (Nat.le_refl _) _),alloc_at rfl⟩
 obtain ⟨w1,hw⟩: ∃W,w.alloc (pcO [] (.slice none 0 0) (.slice none 0 0) 0 0 0)=W:=⟨_,rfl⟩
 rw [hw]at F1
 rw [hw]
 clear hw h
 go_wp2_with fail
 refine (Fr.here F1).mono ?_;rintro e w2 ⟨⟨pp,pq,pr,rfl⟩,F2⟩
 have hz2:=F2.out.m.size
 have hz22:w.heap.size < w2.heap.size:=(Array.getElem?_eq_some_iff.1 F2.out.p).1
 go_upto_region 2 with fail
 have F3:=F2.out.box (k:=pcO [] (.slice none 0 0) (.slice none 0 0) pp pq pr) rfl (fun V=> V.heap[w.heap.size]? =some (pcX [] (.slice none 0 0) (.slice none 0 0) 0 0 0)) (fun _ _ m h=> m.box h (by simp;omega)) ((Below.heap_alloc _ _ _ hz22).trans F2.out.p)
 obtain ⟨w3,hw⟩: ∃W,w2.alloc (pcO [] (.slice none 0 0) (.slice none 0 0) pp pq pr)=W:=⟨_,rfl⟩
 rw [hw]at F3
 rw [hw]
 clear hw F1 F2
 obtain ⟨b,hbe⟩: ∃b,w2.heap.size=b:=⟨_,rfl⟩
 rw [hbe]at F3 hz2 hz22
 rw [hbe]
 clear hbe
 have hb:b ∈ [g]∨w.heap.size≤b:= .inr hz2
 go_wp2_with fail
 refine (Fr.want (F3) [112,114,111,99] (by simp)).mono ?_;rintro e w4 ⟨rfl,F4⟩
 have Ew4:=Lib.hid (Eat.want σ (s:=[112,114,111,99]) (by simp))
 generalize wantS σ [112,114,111,99]=σ4 at *
 go_wp2_with fail
 refine (Fr.name (F4)).mono ?_;rintro e w5 ⟨rfl,F5⟩
 have Nw5:=Lib.hid (Eat.name σ4)
 generalize nameS σ4=n at *
 generalize nmA σ4=σ5 at *
 obtain ⟨c0,f0⟩:=F5.out.p.cf 0 rfl
 go_wp2_with fail
 clear c0 f0 F3 F4
 refine (Fr.want (F5.out.set 0 (sv n) hb rfl) [40] (by simp)).mono ?_;rintro e w6 ⟨rfl,F6⟩
 have Ew6:=Lib.hid (Eat.want σ5 (s:=[40]) (by simp))
 generalize wantS σ5 [40]=σ6 at *
 have E0:=Lib.hid ((Ew4.out.trans Nw5.out.1 (Nat.le_refl _)).trans Ew6.out (Nat.le_refl _))
 have N0:Hid (σ6≠none→isNameL n=true):=Lib.hid fun h=> Nw5.out.2 (Ew6.out.some h)
 clear Ew4 Nw5 Ew6 F5
 obtain ⟨xs,F7⟩: ∃xs,Hid (Fr g [g] w w6 σ6 (Bx g b (pcX n (.slice none 0 0) (.slice none 0 0) pp pq pr) (fun V=> V.heap[w.heap.size]? =some (pcX [] (.slice none 0 0) (.slice none 0 0) 0 0 0)∧Ar ClX 72 3 True V (b+1) none 0 0 [] xs))):=⟨[],F6.out.as (fun V V' m h=> ⟨m.box h.1 (by simp;omega),h.2.mod cl_keep m (fun j hj=> by have:=F6.out.p.ne;simp at hj;omega)⟩) ⟨F6.out.p.q,Ar.nil_ _ _⟩⟩
 clear F6
 go_wp2_with fail
 go_loopw [] (fun wr=> ∃(k:Nat) (A:Option Addr) (c:Nat) (a:List Cl) (xs:List Value) (σr:Sg),Hid (Fr g [g] w wr σr (Bx g b (pcX n (.slice A k c) (.slice none 0 0) pp pq pr) (fun V=> V.heap[w.heap.size]? =some (pcX [] (.slice none 0 0) (.slice none 0 0) 0 0 0)∧Ar ClX 72 3 True V (b+1) A k c a xs)))∧Hid (Eat σ σr (8+n.length+Y.W 1 (toksPs a)))∧Hid (σr≠none→isNameL n=true∧a.length≤6∧∀c ∈ a,okC c)) (fun wr=> lenE wr g)
 case atStart=> exact ⟨0,none,0,[],xs,σ6,F7,Lib.hid (E0.out.le (by simp [toksPs,W_nil];omega)),Lib.hid fun h=> ⟨N0.out h,by simp,by simp⟩⟩
 case round=>
  clear F7 E0 N0
  obtain ⟨k,A,c,a,xs,σr,F,E,N⟩:=hrel
  have HM:=Lib.hid F.out.s.lenE
  go_upto_region 5 with fail
  go_cut [23] (fun v wx=> ∃σ2,Hid (Fr g [g] w wx σ2 (Bx g b (pcX n (.slice A k c) (.slice none 0 0) pp pq pr) (fun V=> V.heap[w.heap.size]? =some (pcX [] (.slice none 0 0) (.slice none 0 0) 0 0 0)∧Ar ClX 72 3 True V (b+1) A k c a xs)))∧((v= .bool false∧Hid (Eat σ σ2 (10+n.length+Y.W 1 (toksPs a)))∧Hid (σ2≠none→σr≠none))∨(v= .bool true∧σ2=σr∧0 < lenE wr g)))
  case first=>
   obtain ⟨ev,c3,he⟩:=F.out.s.e
   cases σr with
   | none=>
    go_wp2_with fail
    go_meet
    exact ⟨none,F,.inl ⟨rfl,Lib.hid (fun _ _ e=> nomatch e),Lib.hid fun h=> h⟩⟩
   | some y=>
    go_wp2_with fail
    refine (Fr.take F [41] (by simp)).mono ?_;rintro e w2 ⟨rfl,F2⟩
    cases hk:takeB (some y) [41]with
    | true=>
     have T:=Lib.hid (Eat.take (σ:=some y) (s:=[41]) (by simp) hk)
     go_wp2_with fail
     go_meet
     exact ⟨_,F2,.inl ⟨rfl,Lib.hid (E.out.trans T.out (by simp;omega)),Lib.hid T.out.some⟩⟩
    | false=>
     rw [takeS_no hk]at F2
     go_wp2_with fail
     go_meet
     exact ⟨_,F2,.inr ⟨rfl,rfl,by rw [HM.out];simp [lenG]⟩⟩
  case rest=>
   clear F
   obtain ⟨σ2,F2,h2⟩:=hcut
   obtain ⟨w2,hw⟩: ∃W,wc=W:=⟨_,rfl⟩
   rw [hw]at F2
   rw [hw]
   clear hw
   rcases h2 with ⟨rfl,E2,K2⟩ | ⟨rfl,rfl,hpos⟩
   ·go_wp2_with fail
    refine (Fr.blk (rblock_all (lenS σ2+1)).1 F2 hb 2 rfl (Nat.lt_succ_self _)).mono ?_;rintro e w8 ⟨B,nb,cb,body,σ8,rfl,⟨⟨c2,f2⟩,hb8⟩,F8,E8,N8⟩
    go_upto_region 14 with fail
    obtain ⟨w9,hw⟩: ∃W,w8.setCell ⟨b,2,none⟩ (.slice B nb cb)=W:=⟨_,rfl⟩
    rw [hw]at F8
    rw [hw]
    clear hw F2 c2 f2
    obtain ⟨⟨⟨x0,x1⟩,x2,x3⟩,x4,x5⟩:=cells6F F8.out.p.x
    obtain ⟨⟨⟨z0,z1⟩,z2,z3⟩,z4,z5⟩:=cells6F F8.out.p.q.1.1
    obtain ⟨⟨⟨v0,v1⟩,v2,v3⟩,v4,v5⟩:=frozen6F F8.out.p.q.1.1
    go_wp2_with fail
    clear x0 x1 x2 x3 x4 x5 z0 z1 z2 z3 z4 z5 v0 v1 v2 v3 v4 v5
    obtain ⟨X3,M3⟩:=set6_box (sv n) (.slice A k c) (.slice B nb cb) (nv pp) (nv pq) (nv pr) F8.out.p.q.1.1
    obtain ⟨wz,hw⟩: ∃W,set6 w9 w.heap.size (sv n) (.slice A k c) (.slice B nb cb) (nv pp) (nv pq) (nv pr)=W:=⟨_,rfl⟩
    rw [hw]at X3 M3
    unfold set6 at hw
    first | rw [hw] | (simp only [nv,sv]at hw;rw [hw])
    clear hw
    obtain ⟨⟨⟨y0,y1⟩,y2,y3⟩,y4,y5⟩:=cells6F X3
    refine bodyPost_ret (v:= .agg #[sv n,.slice A k c,.slice B nb cb,nv pp,nv pq,nv pr]) (by simp [results,Tryz.results31,go_sem,y0,y1,y2,y3,y4,y5]) rfl ?_
    have hs:=F8.out.m.size
    have hA:=F8.out.p.q.1.2
    obtain rfl:=hA.len
    refine ⟨n,A,_,c,B,nb,cb,pp,pq,pr,⟨n,a,body⟩,σ8,rfl,F8.out.s.keep fun j hj=> M3.block j (by omega) (by simp;omega),F8.out.m.trans M3 (fun x hx=> .inr (by simp at hx;omega)),E2.out.trans E8.out ?_,fun h=> ?_,fun h=> ?_⟩
    ·unfold toksP
     simp only [W_cons,W_app,W_nil,cw_w,cw_g,w_proc,List.length_cons,List.length_nil]
     simp
     omega
    ·have h1:=N.out (K2.out (E8.out.some h))
     exact ⟨h1.1,h1.2,N8.out h,trivial⟩
    ·obtain ⟨h1,S,⟨bs,h2,h3⟩,h4⟩:=F8.out.p.q.2 h
     obtain ⟨_,hr,_⟩:=hA.tr trivial
     have own:=own_mod hA.own M3 (fun j hj hx=> by have:=(hA.own.lt j hj).1;simp at hx;omega)
     have hk: ∀j,S j→wz.heap[j]? =w9.heap[j]? :=fun j hj=> M3.block j (h4 j hj).2 (by have:=(h4 j hj).1;simp;omega)
     refine ⟨fun j=> S j∨(Value.slice A a.length c).ownBlock=some j,⟨A,c,xs,B,cb,bs,pp,pq,pr,by rw [h1],⟨Row.of_own own (fun _ h=> .inr h),hr⟩,(h2.keep hk).mono fun _ h=> .inl h,StsR.mono (fun _ h=> .inl h) _ _ (StsR.keep hk _ _ h3)⟩,fun j hj=> ?_⟩
     have hm:=M3.size
     rcases hj with hj | hj
     ·have:=h4 j hj
      omega
     ·have:=own.lt j hj
      omega
   ·obtain ⟨c1,f1⟩:=F2.out.p.cf 1 rfl
    have hk6:k≤6:=by
     rw [← F2.out.p.q.2.len]
     refine (N.out fun h=> ?_).2.1
     have:=HM.out
     rw [h]at this
     simp [lenG]at this
     omega
    go_upto_if 27 with fail
    go_cut [] (fun wx=> ∃σ6,Hid (Fr g [g] w wx σ6 (Bx g b (pcX n (.slice A k c) (.slice none 0 0) pp pq pr) (fun V=> V.heap[w.heap.size]? =some (pcX [] (.slice none 0 0) (.slice none 0 0) 0 0 0)∧Ar ClX 72 3 True V (b+1) A k c a xs)))∧Hid (EatL σ2 σ6 (if a=[]then 0 else 2)))
    case first=>
     have hl:=F2.out.p.q.2.len
     by_cases hk:0 < k
     ·rw [show decide (0 < k)=true by simpa using hk]
      go_wp2_with fail
      refine (Fr.want (F2) [44] (by simp)).mono ?_;rintro e w3 ⟨rfl,F3⟩
      have Ew3:=Lib.hid (Eat.want σ2 (s:=[44]) (by simp))
      generalize wantS σ2 [44]=σ3 at *
      go_wp2_with fail
      go_meet
      exact ⟨_,F3,Lib.hid fun d r h=> by obtain ⟨l,h1,h2,h3⟩:=Ew3.out d r h;exact ⟨l,h1,by omega,by rw [if_neg (fun e=> by rw [e]at hl;simp at hl;omega)];simp at h3;omega⟩⟩
     ·rw [show decide (0 < k)=false by simpa using hk]
      go_wp2_with fail
      go_meet
      exact ⟨_,F2,Lib.hid fun d r h=> ⟨r,h,Nat.le_refl _,by rw [if_pos (List.eq_nil_of_length_eq_zero (by omega))];omega⟩⟩
    case rest=>
     clear F2 c1 f1
     obtain ⟨σ6,F2,E6⟩:=hcut
     obtain ⟨w3,hw⟩: ∃W,wc=W:=⟨_,rfl⟩
     rw [hw]at F2
     rw [hw]
     clear hw
     go_upto_region 8 with fail
     go_cut [44] (fun v wx=> v= .bool (decide (k=6) && nmS σ6)∧Hid (Fr g [g] w wx σ6 (Bx g b (pcX n (.slice A k c) (.slice none 0 0) pp pq pr) (fun V=> V.heap[w.heap.size]? =some (pcX [] (.slice none 0 0) (.slice none 0 0) 0 0 0)∧Ar ClX 72 3 True V (b+1) A k c a xs))))
     case first=>
      obtain ⟨c1,f1⟩:=F2.out.p.cf 1 rfl
      by_cases hk:k=6
      ·subst hk
       obtain ⟨ev,c3,he⟩:=F2.out.s.e
       cases σ6 with
       | none=>
        go_wp2_with fail
        go_meet
        exact ⟨rfl,F2⟩
       | some y=>
        go_wp2_with fail
        refine (Fr.isName F2).mono ?_;rintro e w4 ⟨rfl,F4⟩
        go_wp2_with fail
        go_meet
        exact ⟨by simp,F4⟩
      ·have hk1:((k:Int)==6)=false:=by simp;omega
       go_wp2_with fail
       go_meet
       exact ⟨by simp [hk],F2⟩
     case rest=>
      clear F2
      obtain ⟨rfl,F2⟩:=hcut
      obtain ⟨w4,hw⟩: ∃W,wc=W:=⟨_,rfl⟩
      rw [hw]at F2
      rw [hw]
      clear hw
      obtain ⟨bv,hbv⟩: ∃v,(decide (k=6) && nmS σ6)=v:=⟨_,rfl⟩
      have HBV:=Lib.hid hbv
      rw [hbv]
      clear hbv
      go_upto_if 44 with fail
      go_cut [] (fun wx=> ∃σ8,Hid (Fr g [g] w wx σ8 (Bx g b (pcX n (.slice A k c) (.slice none 0 0) pp pq pr) (fun V=> V.heap[w.heap.size]? =some (pcX [] (.slice none 0 0) (.slice none 0 0) 0 0 0)∧Ar ClX 72 3 True V (b+1) A k c a xs)))∧Hid (σ8≠none→σ8=σ6∧(k=6→nmS σ6=false)))
      case first=>
       cases bv with
       | true=>
        go_wp2_with fail
        refine (Fr.fail F2 2 (by decide)).mono ?_;rintro e w3 ⟨rfl,F3⟩
        go_wp2_with fail
        go_meet
        exact ⟨none,F3,Lib.hid fun h=> absurd rfl h⟩
       | false=>
        go_wp2_with fail
        go_meet
        exact ⟨σ6,F2,Lib.hid fun _=> ⟨rfl,fun h=> by simpa [h]using HBV.out⟩⟩
      case rest=>
       clear F2
       obtain ⟨σ8,F8,S8⟩:=hcut
       go_upto_region 10 with fail
       obtain ⟨wd,hwd⟩: ∃W,wc.drew=W:=⟨_,rfl⟩
       have Fd:Hid (Fr g _ _ wd σ8 _):=Lib.hid (by rw [← hwd];exact (F8.out.next (Below.refl _ _).drew).out)
       clear F8
       refine wp_region_last (l:=[_,_,_,_,_,_,_]) [b] (.read 0 (.read 1 (.read 2 (.call 3 (.call 4 (.call 5 (.read 6 .done))))))) (by kernel_rfl) (by kernel_rfl) (by kernel_rfl) (fun _ _ d _ _ h=> by cases d <;> exact h) ?_
       rw [hwd]
       clear hwd
       refine pwith (fun W hW=> (show W.cell? ⟨b,1,none⟩=some (.slice A k c) from (World.cell?_of_block (a:=⟨b,1,none⟩) (hW b (by simp))).trans (Fd.out.p.cf 1 rfl).1)) (fun k7=> ?_)
       repeat (first | (refine prE ?_;simp only [Act.put,sA,sB,sC]) | (refine pkE ?_;simp only [Act.put,sA,sB,sC]))
       refine pcall rfl rfl (fun K hK=> ?_)
       go_simp
       have hgb:=Fd.out.p.ne
       have hsd:=Fd.out.m.size
       refine (f_col σ8 wd g Fd.out.s).mono ?_;rintro e w9 ⟨nm,ck,cm,σ9,rfl,h9,m9,e9,n9⟩;have E9:=Lib.hid e9;have N9:=Lib.hid n9;clear e9 n9
       have F9:=Fd.out.mod m9 h9
       have hbd:b < wd.heap.size:=(Array.getElem?_eq_some_iff.1 Fd.out.p.x).1
       have hkb:w9.heap[b]? =wd.heap[b]? :=m9.block _ hbd (by simp;omega)
       have hd9:=m9.size
       have hb9:b < w9.heap.size:=by omega
       go_wp2_with fail
       refine hK.out _ _ (fun b' hb=> by simp at hb;rw [hb];exact hkb) ?_
       clear hK K hkb k7 h9 m9
       try simp only [Act.put,sA,sB,sC]
       refine pcall rfl rfl (fun K hK=> ?_)
       go_simp
       refine hK.out _ _ (fun b' hb=> Below.heap_alloc _ _ _ (by simp at hb;omega)) ?_
       clear hK K
       try simp only [Act.put,sA,sB,sC]
       obtain ⟨wa,hw⟩: ∃W,w9.alloc (.cells #[sv nm,nv ck,nv cm] 72)=W:=⟨_,rfl⟩
       have RD:Hid (Rd wa (w9.heap.size+1) 3 (some ⟨w9.heap.size,0,none⟩) 1 [sv nm,nv ck,nv cm]):=Lib.hid (by rw [← hw];exact Rd.made _ _ rfl rfl)
       have Fa:Hid (Fr g _ _ wa σ9 _):=Lib.hid (by rw [← hw];exact (F9.out.next one_new).out)
       have hza:w9.heap.size < wa.heap.size:=by rw [← hw];simp
       have HA:Hid (∀b,b < w9.heap.size→wa.heap[b]? =w9.heap[b]?):=Lib.hid fun b hb=> by rw [← hw];exact Below.heap_alloc _ _ _ hb
       first | rw [hw] | (simp only [nv,sv]at hw;rw [hw])
       clear hw F9
       refine pcall rfl rfl (fun K hK=> ?_)
       have hown: ∀b,(Value.slice A k c).ownBlock=some b→b < wd.heap.size:=fun b h=> (Fd.out.p.q.2.own.lt b h).2
       clear Fd
       refine wapp4 (.tmp 48) (.tmp 51) cl_E rfl (b+1) xs rfl Fa.out.p.q.2.own rfl [sv nm,nv ck,nv cm] RD.out (by simp [Value.oneCell']) (by unfold maxLen;omega) (by omega) (by omega) rfl ?_
       intro A7 c7 wA o7 g7 h7
       have hn7:some b≠(Value.slice A k c).ownBlock:=fun e=> by have:=(Fa.out.p.q.2.own.lt _ e.symm).1;omega
       refine hK.out _ _ (fun b' hb=> by simp at hb;rw [hb];exact g7.block b (by omega) hn7) ?_
       clear hK K
       try simp only [Act.put,sA,sB,sC]
       repeat (first | (refine prE ?_;simp only [Act.put,sA,sB,sC]) | (refine pkE ?_;simp only [Act.put,sA,sB,sC]))
       refine pdone ?_
       refine last_step rfl (fun K hK=> ?_)
       have x7:=(World.cell?_of_block (a:=⟨b,1,none⟩) (g7.block b (by omega) hn7)).trans (Fa.out.p.cf 1 rfl).1
       have f7:wA.frozen? ⟨b,1,none⟩=false:=Lib.frozen_of_heap ((g7.block b (by omega) hn7).trans Fa.out.p.x) 1
       go_simp
       refine hK.out _ _ ?_
       clear hK K x7 f7
       have FF:=Fa.out.row1 (i:=1) (lo1:=wd.heap.size) cl_keep cl_mono (fun V V' h=> (h _ (by omega) (by omega)).trans) (fun V V' m h=> m.box h (by simp;omega)) hb (by omega) (by omega) (fun h=> h) (by omega) (by omega) hown (y:=(⟨nm,ck,cm⟩:Cl)) (fun _=> ⟨fun _=> False,rfl,fun _ h=> h.elim⟩) o7 g7 h7 rfl
       obtain ⟨wF,hw⟩: ∃W,wA.setCell ⟨b,1,none⟩ (.slice A7 (k+1) c7)=W:=⟨_,rfl⟩
       rw [hw]at FF
       rw [hw]
       clear hw o7 g7 h7 Fa RD hown hn7
       replace FF:Hid (Fr g [g] w wF σ9 (Bx g b (pcX n (.slice A7 (k+1) c7) (.slice none 0 0) pp pq pr) (fun V=> V.heap[w.heap.size]? =some (pcX [] (.slice none 0 0) (.slice none 0 0) 0 0 0)∧Ar ClX 72 3 True V (b+1) A7 (k+1) c7 (a ++ [⟨nm,ck,cm⟩]) (xs ++ [sv nm,nv ck,nv cm])))):=FF
       have H8:Hid (σ9≠none→σ8=σ6∧(k=6→nmS σ6=false)):=Lib.hid fun h=> S8.out (E9.out.some h)
       have ER:Hid (Eat σ2 σ9 ((if a=[]then 0 else 2)+Y.W 1 (toksC ⟨nm,ck,cm⟩))):=Lib.hid fun d r h=> by
        obtain ⟨l,h1,h2,h3⟩:=E9.out d r h
        rw [(H8.out (by rw [h];simp)).1]at h1
        obtain ⟨m,h4,h5,h6⟩:=E6.out d l h1
        exact ⟨m,h4,by omega,by omega⟩
       clear E6 S8
       go_upto_region 11 with fail
       go_cut [61] (fun v wx=> ∃bv,v= .bool bv∧Hid (Fr g [g] w wx σ9 (Bx g b (pcX n (.slice A7 (k+1) c7) (.slice none 0 0) pp pq pr) (fun V=> V.heap[w.heap.size]? =some (pcX [] (.slice none 0 0) (.slice none 0 0) 0 0 0)∧Ar ClX 72 3 True V (b+1) A7 (k+1) c7 (a ++ [⟨nm,ck,cm⟩]) (xs ++ [sv nm,nv ck,nv cm])))))
       case first=>
        go_wp2_with fail
        refine (Fr.text FF).mono ?_;rintro e wG ⟨rfl,FG⟩
        by_cases h1:txS σ9=[44]
        ·have s1:(txS σ9==[44])=true:=by simpa using h1
         clear h1
         go_wp2_with fail
         go_meet
         exact ⟨_,rfl,FG⟩
        ·have s1:(txS σ9==[44])=false:=by simpa using h1
         clear h1
         go_wp2_with fail
         refine (Fr.text FG).mono ?_;rintro e wH ⟨rfl,FH⟩
         go_wp2_with fail
         go_meet
         exact ⟨_,rfl,FH⟩
       case rest=>
        clear FF
        obtain ⟨bv,rfl,FF⟩:=hcut
        obtain ⟨wF,hw⟩: ∃W,wc=W:=⟨_,rfl⟩
        rw [hw]at FF
        rw [hw]
        clear hw
        cases bv with
        | true=>
         go_wp2_with fail
         refine (Fr.fail FF 13 (by decide)).mono ?_;rintro e wG ⟨rfl,FG⟩
         go_wp2_with fail
         go_roundw
         case rel=> exact ⟨k+1,A7,c7,_,_,none,FG,Lib.hid (fun _ _ e=> nomatch e),Lib.hid fun h=> absurd rfl h⟩
         case measure=>
          have h2:=FG.out.s.lenE
          simp [lenG]at h2
          omega
        | false=>
         go_wp2_with fail
         go_roundw
         case rel=>
          refine ⟨k+1,A7,c7,_,_,σ9,FF,Lib.hid (E.out.trans ER.out (by rw [W_ps];omega)),Lib.hid fun h=> ?_⟩
          obtain ⟨e,h8⟩:=H8.out h
          obtain ⟨h1,h2,h3⟩:=N.out (ER.out.some h)
          obtain ⟨h4,h5⟩:=N9.out h
          refine ⟨h1,?_,fun x hx=> (List.mem_append.1 hx).elim (h3 x) (fun h=> by simp at h;rw [h];exact h4)⟩
          have:k≠6:=fun hk=> by rw [e,h8 hk]at h5;cases h5
          have:=FF.out.p.q.2.len
          omega
         case measure=>
          have h1:=HM.out
          have h2:=FF.out.s.lenE
          have h3:=ER.out.less (by omega)
          omega
end Go.Proofs.YtnbmpfdffoidaaaGreatDoor.Y
namespace Go.Proofs.YtnbmpfdffoidaaaGreatDoor.X
open Go.RowKit O V S
def kindN (c:UInt8):Nat:=if smallC c=true then 1 else if digitC c=true then 2 else if c.toNat=95 then 3 else if c.toNat=34 then 4 else if blankC c=true then 5 else if c.toNat=35 then 6 else 0
theorem kind5 (c:UInt8):kindN c=5 ↔ blankC c=true:=by
 unfold kindN smallC digitC blankC
 simp only [Bool.or_eq_true,Bool.and_eq_true,decide_eq_true_eq]
 repeat' split
 all_goals omega
theorem kind6 (c:UInt8):kindN c=6 ↔ c.toNat=35:=by
 unfold kindN smallC digitC blankC
 simp only [Bool.or_eq_true,Bool.and_eq_true,decide_eq_true_eq]
 repeat' split
 all_goals omega
theorem kind_word (c:UInt8):wordC c=(decide (1≤kindN c) && decide (kindN c≤3)):=by
 rw [Bool.eq_iff_iff]
 unfold wordC kindN smallC digitC blankC
 simp only [Bool.or_eq_true,Bool.and_eq_true,decide_eq_true_eq]
 repeat' split
 all_goals omega
theorem kind2 (c:UInt8):digitC c=decide (kindN c=2):=by
 rw [Bool.eq_iff_iff]
 unfold kindN smallC digitC blankC
 simp only [Bool.or_eq_true,Bool.and_eq_true,decide_eq_true_eq]
 repeat' split
 all_goals omega
theorem rkind_small (c:UInt8)(w:World)(h:smallC c=true):Calls Tryz.prog 60 #[.int .u8 (c.toNat:Int)] w fun e w'=> e= .returned (.int .i64 1)∧w=w':=by
 simp only [smallC,Bool.and_eq_true,decide_eq_true_eq]at h
 obtain ⟨h1,h2⟩:=h
 have d1:decide ((c.toNat:Int) ≥ 97)=true:=by simp;omega
 have d2:decide ((c.toNat:Int)≤122)=true:=by simp;omega
 clear h1 h2
 go_enter Tryz.func60,Tryz.ntmps60
 go_wp2_with fail
 go_ret
 exact ⟨rfl,rfl⟩
theorem rkind_any (c:UInt8)(w:World):Calls Tryz.prog 60 #[.int .u8 (c.toNat:Int)] w fun e w'=> e= .returned (.int .i64 (kindN c))∧w=w':=by
 by_cases h1:smallC c=true
 ·have:kindN c=1:=by unfold kindN;rw [if_pos h1]
  rw [this]
  exact rkind_small c w h1
 have HK:Hid (kindN c=if digitC c=true then 2 else if c.toNat=95 then 3 else if c.toNat=34 then 4 else if blankC c=true then 5 else if c.toNat=35 then 6 else 0):=Lib.hid (by unfold kindN;rw [if_neg h1])
 obtain ⟨n,hn⟩: ∃n:Nat,c.toNat=n:=⟨_,rfl⟩
 have hlt:=c.toNat_lt
 have hs: ¬(97≤n∧n≤122):=by
  intro h;apply h1;simp only [smallC,Bool.and_eq_true,decide_eq_true_eq];omega
 have hd:digitC c=(decide (48≤n) && decide (n≤57)):=by unfold digitC;rw [hn]
 have hb:blankC c=(decide (n=32) || (decide (n=9) || (decide (n=10) || decide (n=13)))):=by unfold blankC;rw [hn]
 rw [hd,hb,hn]at HK
 rw [hn]
 clear h1 hd hb hn
 generalize kindN c=K at *
 go_enter Tryz.func60,Tryz.ntmps60
 go_wp2_with fail
 all_goals
  go_ret
  refine ⟨?_,rfl⟩
  have:=HK.out
  simp only [Bool.and_eq_true,Bool.or_eq_true,decide_eq_true_eq]at this
  simp only [beq_eq_false_iff_ne,beq_iff_eq,ne_eq]at *
  refine ret_int ?_
  clear HK
  repeat' split at this
  all_goals omega
def rpairs:List (UInt8 × UInt8):=[(38,38),(124,124),(61,61),(33,61),(60,61),(43,43)]
def hitP (c d:UInt8)(p:UInt8 × UInt8):Bool:=c==p.1 && d==p.2
theorem two_rpairs (c d:UInt8):two c.toNat d.toNat=rpairs.any (hitP c d):=by
 have h: ∀x y:UInt8,(x==y)=decide (x.toNat=y.toNat):=fun x y=> by
  rw [Bool.eq_iff_iff,beq_iff_eq,decide_eq_true_eq];exact ⟨fun h=> by rw [h],fun h=> UInt8.toNat_inj.1 h⟩
 unfold rpairs two hitP
 simp only [List.any_cons,List.any_nil,Bool.or_false,h]
 rfl
theorem sub2 (s:List UInt8)(i:Nat)(h:i+1 < s.length){c d:UInt8}(hc:s[i]=c)(hd:s[i+1]=d):(ByteArray.mk s.toArray).extract i (i+2)=⟨#[c,d]⟩:=by
 rw [cut_at s i 2 (i+2) rfl]
 have:(s.drop i).take 2=[c,d]:=by
  rw [List.drop_eq_getElem_cons (by omega),List.drop_eq_getElem_cons (by omega:i+1 < s.length),hc,hd];rfl
 rw [this]
theorem sign_at2 (c d:UInt8)(r:List UInt8):signL (c::d::r)=if rpairs.any (hitP c d)=true then 2 else if signB.contains c=true then 1 else 0:=by
 rw [← two_rpairs,← one_mem];rfl
theorem sign_at1 (c:UInt8):signL [c]=if signB.contains c=true then 1 else 0:=by
 rw [← one_mem];rfl
theorem pairs6 (wr:World)(g:Nat)(h:wr.heap[g]? =some (.cells #[.string ⟨#[38,38]⟩,.string ⟨#[124,124]⟩,.string ⟨#[61,61]⟩,.string ⟨#[33,61]⟩,.string ⟨#[60,61]⟩,.string ⟨#[43,43]⟩] 9 (0,0))):
  (wr.cell? ⟨g,0,none⟩=some (.string ⟨#[38,38]⟩)∧wr.cell? ⟨g,1,none⟩=some (.string ⟨#[124,124]⟩)∧wr.cell? ⟨g,2,none⟩=some (.string ⟨#[61,61]⟩))∧wr.cell? ⟨g,3,none⟩=some (.string ⟨#[33,61]⟩)∧wr.cell? ⟨g,4,none⟩=some (.string ⟨#[60,61]⟩)∧wr.cell? ⟨g,5,none⟩=some (.string ⟨#[43,43]⟩):=by
 refine ⟨⟨?_,?_,?_⟩,?_,?_,?_⟩ <;> (rw [Lib.cell_of_heap h];rfl)
theorem sign_end (c:UInt8){k:Nat}(hk:k < signB.length)(h:(signB.take k).contains c=false):(signB.take (k+1)).contains c=(signB[k]==c):=by
 rw [List.take_succ_eq_append_getElem hk]
 have: ∀(a:List UInt8) (x:UInt8),a.contains c=false→(a ++ [x]).contains c=(x==c):=by
  intro a x ha
  rw [Bool.eq_iff_iff]
  simp only [List.contains_eq_mem,decide_eq_false_iff_not]at ha
  simp [ha]
  exact eq_comm
 exact this _ _ h
theorem rsign_any (s:List UInt8)(i:Nat)(w:World)(hs:s.length≤20000)(hin:i < s.length):Calls Tryz.prog 119 #[.string ⟨s.toArray⟩,.int .i64 (i:Int)] w fun e w'=> e= .returned (.int .i64 (signL (s.drop i):Int))∧Below w.heap.size w w':=by
 have hsz:(ByteArray.mk s.toArray).size=s.length:=by simp [ByteArray.size]
 obtain ⟨c,hc⟩: ∃c,s[i]=c:=⟨_,rfl⟩
 have hx:=ba_at s i hin hc
 by_cases h2:i+1 < s.length
 ·obtain ⟨d,hd⟩: ∃d,s[i+1]=d:=⟨_,rfl⟩
  have hsub:=sub2 s i h2 hc hd
  have hr:Hid (signL (s.drop i)=if rpairs.any (hitP c d)=true then 2 else if signB.contains c=true then 1 else 0):=Lib.hid (by
   rw [List.drop_eq_getElem_cons hin,List.drop_eq_getElem_cons h2,hc,hd];exact sign_at2 _ _ _)
  have hi2:decide (i+2≤s.length)=true:=by simp;omega
  clear hc hd
  go_enter Tryz.func119,Tryz.ntmps119
  go_wp2_with fail
  go_loopw [4,6,16] (fun _ _ v wr=> ∃k:Nat,k≤6∧v= .int .i64 k∧(rpairs.take k).any (hitP c d)=false∧wr.heap[w.heap.size]? =some (.cells #[.string ⟨#[38,38]⟩,.string ⟨#[124,124]⟩,.string ⟨#[61,61]⟩,.string ⟨#[33,61]⟩,.string ⟨#[60,61]⟩,.string ⟨#[43,43]⟩] 9 (0,0))∧Below w.heap.size w wr) (fun _ _ v _=> 6 - (intOf v).toNat)
  case atStart=> exact ⟨0,by omega,rfl,rfl,heap_alloc_new _ _,(Below.refl _ _).alloc (Nat.le_refl _) _⟩
  case round=>
   obtain ⟨k,hk,rfl,hp,hX,hB⟩:=hrel
   obtain ⟨⟨x0,x1,x2⟩,x3,x4,x5⟩:=pairs6 wr _ hX
   match k,hk with
   | 0,_=>
    cases hq:(c==38 && d==38)
    ·go_wp2_with fail
     go_roundw
     case rel=> exact ⟨0+1,by omega,by go_num,by rw [show rpairs.take (0+1)=rpairs.take 0 ++ [(38,38)] from rfl,List.any_append,hp];simp [hitP,hq],hX,hB⟩
     case measure=> simp [intOf]
    ·go_wp2_with fail
     go_ret
     refine ⟨by rw [hr.out,if_pos (by simp [rpairs,hitP,hq])];rfl,?_⟩
     repeat (first | (with_reducible exact Below.refl _ _) | (with_reducible assumption) | refine Below.setCell ?_ (by simp <;> omega) _ | refine Below.alloc ?_ (by simp <;> omega) _ | refine Below.drew ?_)
   | 1,_=>
    cases hq:(c==124 && d==124)
    ·go_wp2_with fail
     go_roundw
     case rel=> exact ⟨1+1,by omega,by go_num,by rw [show rpairs.take (1+1)=rpairs.take 1 ++ [(124,124)] from rfl,List.any_append,hp];simp [hitP,hq],hX,hB⟩
     case measure=> simp [intOf]
    ·go_wp2_with fail
     go_ret
     refine ⟨by rw [hr.out,if_pos (by simp [rpairs,hitP,hq])];rfl,?_⟩
     repeat (first | (with_reducible exact Below.refl _ _) | (with_reducible assumption) | refine Below.setCell ?_ (by simp <;> omega) _ | refine Below.alloc ?_ (by simp <;> omega) _ | refine Below.drew ?_)
   | 2,_=>
    cases hq:(c==61 && d==61)
    ·go_wp2_with fail
     go_roundw
     case rel=> exact ⟨2+1,by omega,by go_num,by rw [show rpairs.take (2+1)=rpairs.take 2 ++ [(61,61)] from rfl,List.any_append,hp];simp [hitP,hq],hX,hB⟩
     case measure=> simp [intOf]
    ·go_wp2_with fail
     go_ret
     refine ⟨by rw [hr.out,if_pos (by simp [rpairs,hitP,hq])];rfl,?_⟩
     repeat (first | (with_reducible exact Below.refl _ _) | (with_reducible assumption) | refine Below.setCell ?_ (by simp <;> omega) _ | refine Below.alloc ?_ (by simp <;> omega) _ | refine Below.drew ?_)
   | 3,_=>
    cases hq:(c==33 && d==61)
    ·go_wp2_with fail
     go_roundw
     case rel=> exact ⟨3+1,by omega,by go_num,by rw [show rpairs.take (3+1)=rpairs.take 3 ++ [(33,61)] from rfl,List.any_append,hp];simp [hitP,hq],hX,hB⟩
     case measure=> simp [intOf]
    ·go_wp2_with fail
     go_ret
     refine ⟨by rw [hr.out,if_pos (by simp [rpairs,hitP,hq])];rfl,?_⟩
     repeat (first | (with_reducible exact Below.refl _ _) | (with_reducible assumption) | refine Below.setCell ?_ (by simp <;> omega) _ | refine Below.alloc ?_ (by simp <;> omega) _ | refine Below.drew ?_)
   | 4,_=>
    cases hq:(c==60 && d==61)
    ·go_wp2_with fail
     go_roundw
     case rel=> exact ⟨4+1,by omega,by go_num,by rw [show rpairs.take (4+1)=rpairs.take 4 ++ [(60,61)] from rfl,List.any_append,hp];simp [hitP,hq],hX,hB⟩
     case measure=> simp [intOf]
    ·go_wp2_with fail
     go_ret
     refine ⟨by rw [hr.out,if_pos (by simp [rpairs,hitP,hq])];rfl,?_⟩
     repeat (first | (with_reducible exact Below.refl _ _) | (with_reducible assumption) | refine Below.setCell ?_ (by simp <;> omega) _ | refine Below.alloc ?_ (by simp <;> omega) _ | refine Below.drew ?_)
   | 5,_=>
    cases hq:(c==43 && d==43)
    ·go_wp2_with fail
     go_roundw
     case rel=> exact ⟨5+1,by omega,by go_num,by rw [show rpairs.take (5+1)=rpairs.take 5 ++ [(43,43)] from rfl,List.any_append,hp];simp [hitP,hq],hX,hB⟩
     case measure=> simp [intOf]
    ·go_wp2_with fail
     go_ret
     refine ⟨by rw [hr.out,if_pos (by simp [rpairs,hitP,hq])];rfl,?_⟩
     repeat (first | (with_reducible exact Below.refl _ _) | (with_reducible assumption) | refine Below.setCell ?_ (by simp <;> omega) _ | refine Below.alloc ?_ (by simp <;> omega) _ | refine Below.drew ?_)
   | 6,_=>
    have hp':rpairs.any (hitP c d)=false:=hp
    have hr2:Hid (signL (s.drop i)=if signB.contains c=true then 1 else 0):=Lib.hid (by rw [hr.out,if_neg (by rw [hp'];simp)])
    clear hr hp hp' hX x0 x1 x2 x3 x4 x5 hsub
    go_wp2_with fail
    have hB0:=Lib.hid hB
    clear hB
    go_loopw [4,8] (fun _ v wr=> ∃k:Nat,k≤17∧v= .int .i64 k∧Hid ((signB.take k).contains c=false)∧Below w.heap.size w wr) (fun _ v _=> 17 - (intOf v).toNat)
    case atStart=> exact ⟨0,by omega,rfl,Lib.hid rfl,hB0.out⟩
    case round=>
     obtain ⟨k,hk,rfl,hp,hB⟩:=hrel
     by_cases hlt:k < 17
     ·have hks:k < signB.length:=hlt
      obtain ⟨e,he⟩: ∃e,signB[k]=e:=⟨_,rfl⟩
      have hst:=Lib.hid (sign_end c hks hp.out)
      rw [he]at hst
      have hy:(ByteArray.mk #[123,125,40,41,91,93,59,44,46,61,60,43,45,42,47,37,33])[k]'hlt=e:=he
      have hki:(k:Int) < 17:=by omega
      have hin2:Hid (signB.contains e=true):=Lib.hid (by rw [← he];simp)
      clear he hks
      by_cases hec:e=c
      ·have e1:((e.toNat:Int)==(c.toNat:Int))=true:=by rw [hec];simp
       rw [hec]at hin2
       have HE:=Lib.hid hec
       clear hec
       go_wp2_with fail
       refine wp_region_sched [(0,true),(1,true),(2,true),(3,true),(4,true),(5,true),(6,true)] (by kernel_rfl) (by kernel_rfl) (fun _ _ d _ _ h=> by cases d <;> exact h) ?_
       repeat (first | (refine srE ?_;simp only [Act.put,sA,sB,sC]) | (refine skE ?_;simp only [Act.put,sA,sB,sC]))
       refine sdone ?_
       go_wp2_with fail
       go_ret
       refine ⟨by rw [hr2.out,if_pos hin2.out];rfl,?_⟩
       repeat (first | (with_reducible exact Below.refl _ _) | (with_reducible assumption) | refine Below.setCell ?_ (by simp <;> omega) _ | refine Below.alloc ?_ (by simp <;> omega) _ | refine Below.drew ?_)
      ·have e1:((e.toNat:Int)==(c.toNat:Int))=false:=by
        simp;intro h;exact hec (UInt8.toNat_inj.1 (by omega))
       have hst2:Hid ((signB.take (k+1)).contains c=false):=Lib.hid (by rw [hst.out];simpa using hec)
       clear hec
       go_wp2_with fail
       refine wp_region_sched [(0,true),(1,true),(2,true),(3,true),(4,true),(5,true),(6,true)] (by kernel_rfl) (by kernel_rfl) (fun _ _ d _ _ h=> by cases d <;> exact h) ?_
       repeat (first | (refine srE ?_;simp only [Act.put,sA,sB,sC]) | (refine skE ?_;simp only [Act.put,sA,sB,sC]))
       refine sdone ?_
       go_wp2_with fail
       go_roundw
       case rel=> exact ⟨k+1,by omega,by go_num,hst2,hB.drew⟩
       case measure=> simp [intOf];omega
     ·obtain rfl:k=17:=by omega
      have hp2:Hid (signB.contains c=false):=Lib.hid hp.out
      go_wp2_with fail
      go_ret
      refine ⟨by rw [hr2.out,if_neg (by rw [hp2.out];simp)];rfl,?_⟩
      repeat (first | (with_reducible exact Below.refl _ _) | (with_reducible assumption) | refine Below.setCell ?_ (by simp <;> omega) _ | refine Below.alloc ?_ (by simp <;> omega) _ | refine Below.drew ?_)
   | k+7,h=> exact absurd h (by omega)
 ·have h2':decide ((i:Int)+1 < (s.length:Int))=false:=by simp;omega
  have hr2:Hid (signL (s.drop i)=if signB.contains c=true then 1 else 0):=Lib.hid (by
   rw [List.drop_eq_getElem_cons hin,List.drop_of_length_le (by omega),hc];exact sign_at1 _)
  have hB:Below w.heap.size w w:=Below.refl _ _
  clear hc
  go_enter Tryz.func119,Tryz.ntmps119
  go_wp2_with fail
  have hB0:=Lib.hid hB
  clear hB
  go_loopw [4,8] (fun _ v wr=> ∃k:Nat,k≤17∧v= .int .i64 k∧Hid ((signB.take k).contains c=false)∧Below w.heap.size w wr) (fun _ v _=> 17 - (intOf v).toNat)
  case atStart=> exact ⟨0,by omega,rfl,Lib.hid rfl,hB0.out⟩
  case round=>
   obtain ⟨k,hk,rfl,hp,hB⟩:=hrel
   by_cases hlt:k < 17
   ·have hks:k < signB.length:=hlt
    obtain ⟨e,he⟩: ∃e,signB[k]=e:=⟨_,rfl⟩
    have hst:=Lib.hid (sign_end c hks hp.out)
    rw [he]at hst
    have hy:(ByteArray.mk #[123,125,40,41,91,93,59,44,46,61,60,43,45,42,47,37,33])[k]'hlt=e:=he
    have hki:(k:Int) < 17:=by omega
    have hin2:Hid (signB.contains e=true):=Lib.hid (by rw [← he];simp)
    clear he hks
    by_cases hec:e=c
    ·have e1:((e.toNat:Int)==(c.toNat:Int))=true:=by rw [hec];simp
     rw [hec]at hin2
     have HE:=Lib.hid hec
     clear hec
     go_wp2_with fail
     refine wp_region_sched [(0,true),(1,true),(2,true),(3,true),(4,true),(5,true),(6,true)] (by kernel_rfl) (by kernel_rfl) (fun _ _ d _ _ h=> by cases d <;> exact h) ?_
     repeat (first | (refine srE ?_;simp only [Act.put,sA,sB,sC]) | (refine skE ?_;simp only [Act.put,sA,sB,sC]))
     refine sdone ?_
     go_wp2_with fail
     go_ret
     refine ⟨by rw [hr2.out,if_pos hin2.out];rfl,?_⟩
     repeat (first | (with_reducible exact Below.refl _ _) | (with_reducible assumption) | refine Below.setCell ?_ (by simp <;> omega) _ | refine Below.alloc ?_ (by simp <;> omega) _ | refine Below.drew ?_)
    ·have e1:((e.toNat:Int)==(c.toNat:Int))=false:=by
      simp;intro h;exact hec (UInt8.toNat_inj.1 (by omega))
     have hst2:Hid ((signB.take (k+1)).contains c=false):=Lib.hid (by rw [hst.out];simpa using hec)
     clear hec
     go_wp2_with fail
     refine wp_region_sched [(0,true),(1,true),(2,true),(3,true),(4,true),(5,true),(6,true)] (by kernel_rfl) (by kernel_rfl) (fun _ _ d _ _ h=> by cases d <;> exact h) ?_
     repeat (first | (refine srE ?_;simp only [Act.put,sA,sB,sC]) | (refine skE ?_;simp only [Act.put,sA,sB,sC]))
     refine sdone ?_
     go_wp2_with fail
     go_roundw
     case rel=> exact ⟨k+1,by omega,by go_num,hst2,hB.drew⟩
     case measure=> simp [intOf];omega
   ·obtain rfl:k=17:=by omega
    have hp2:Hid (signB.contains c=false):=Lib.hid hp.out
    go_wp2_with fail
    go_ret
    refine ⟨by rw [hr2.out,if_neg (by rw [hp2.out];simp)];rfl,?_⟩
    repeat (first | (with_reducible exact Below.refl _ _) | (with_reducible assumption) | refine Below.setCell ?_ (by simp <;> omega) _ | refine Below.alloc ?_ (by simp <;> omega) _ | refine Below.drew ?_)
end Go.Proofs.YtnbmpfdffoidaaaGreatDoor.X
