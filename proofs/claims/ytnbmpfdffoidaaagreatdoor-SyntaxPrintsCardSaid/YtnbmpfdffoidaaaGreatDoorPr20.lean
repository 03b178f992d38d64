/- Texts of the proof, joined: RfY, SynSameT. -/
import Derived.Test.YtnbmpfdffoidaaaGreatDoorPr14
import Derived.Test.YtnbmpfdffoidaaaGreatDoorPr17
import Derived.Test.YtnbmpfdffoidaaaGreatDoorPr19
set_option linter.unusedVariables false
set_option linter.unusedSimpArgs false
set_option maxHeartbeats 8000000
set_option maxRecDepth 100000
namespace Go.Proofs.YtnbmpfdffoidaaaGreatDoor.Y
open Go.RowKit O V S X
theorem own_capF {w:World}{base e size n c:Nat}{A:Option Addr}{xs:List Value}(h:w.ownsRow base e size (.slice A n c) n xs):n≤c∧c≤9223372036854775807:=by
 rcases h.2 with ⟨hv,h0⟩ | ⟨g,cap,cur,hv,_,_,hnc,hm,_⟩
 ·injection hv with _ _ hc
  omega
 ·injection hv with _ _ hc
  unfold maxLen at hm
  omega
theorem rall_f (s:List UInt8)(w:World)(hs:s.length≤16384):Calls Tryz.prog 26 #[.string ⟨s.toArray⟩] w fun e w'=> (∃A n c er off,e= .returned (.tuple #[.slice A n c,nv er,nv off])∧
  (er=0→∃L,(AllZ L∧Y.W 1 L≤3 * s.length∧L.length≤s.length∧∀t ∈ L,t.2.1.length≤s.length)∧TR w' w'.heap.size A n c L))∧Below w.heap.size w w':=by
 obtain ⟨o,hu,ho⟩:=LexU.of_lex s
 have hlen:=hu.len
 refine (rall_any s w hs).mono fun e w' ⟨h,b⟩=> ⟨?_,b⟩
 unfold RetRA at h
 by_cases he:(lexS s (s.length+1) 0).2.1=0
 ·rw [if_neg (by simp [he])]at h
  obtain ⟨A,n,c,xs,rfl,h1,h2⟩:=h
  refine ⟨A,n,c,0,0,rfl,fun _=> ⟨_,⟨(Y.LexU.z hu).1,by have:=Y.LexU.we hu 1;omega,by simpa using hlen,Y.LexU.txt hu⟩,⟨xs,Rd.of_own h1,tks_core (h2.imp (TkD.of (s:=s)))⟩,own_capF h1⟩⟩
 ·rw [if_pos he]at h
  subst h
  exact ⟨.none,0,0,_,_,rfl,fun h=> absurd h he⟩
theorem tb_E:Elem Tryz.prog 22 66 3 48 (.agg #[.string ByteArray.empty,.int .i64 0,.slice none 0 0]):=by
 obtain ⟨i,hi,h1,h2,h3⟩:=info_parts (show (Tryz.prog.info? 66).map (fun i=> (i.zero,i.size,i.bytes))=some (some (.agg #[.string ByteArray.empty,.int .i64 0,.slice none 0 0]),3,48) by kernel_rfl)
 exact ⟨Tryz.underlying22,i,hi,h1,h2,h3,rfl,by omega⟩
theorem pc_E:Elem Tryz.prog 23 41 6 88 (.agg #[.string ByteArray.empty,.slice none 0 0,.slice none 0 0,.int .i64 0,.int .i64 0,.int .i64 0]):=by
 obtain ⟨i,hi,h1,h2,h3⟩:=info_parts (show (Tryz.prog.info? 41).map (fun i=> (i.zero,i.size,i.bytes))=some (some (.agg #[.string ByteArray.empty,.slice none 0 0,.slice none 0 0,.int .i64 0,.int .i64 0,.int .i64 0]),6,88) by kernel_rfl)
 exact ⟨Tryz.underlying23,i,hi,h1,h2,h3,rfl,by omega⟩
theorem tbF_keep (w w':World)(S:Nat→Prop)(a:Tb)(vs:List Value)(h: ∀b,S b→w'.heap[b]? =w.heap[b]?)(k:TbR w S a vs):TbR w' S a vs:=TbR.keep h a vs k
theorem tbF_mono (w:World)(S S':Nat→Prop)(a:Tb)(vs:List Value)(h: ∀b,S b→S' b)(k:TbR w S a vs):TbR w S' a vs:=TbR.mono h a vs k
theorem pcF_keep (w w':World)(S:Nat→Prop)(a:Pc)(vs:List Value)(h: ∀b,S b→w'.heap[b]? =w.heap[b]?)(k:PcR w S a vs):PcR w' S a vs:=PcR.keep h a vs k
theorem pcF_mono (w:World)(S S':Nat→Prop)(a:Pc)(vs:List Value)(h: ∀b,S b→S' b)(k:PcR w S a vs):PcR w S' a vs:=PcR.mono h a vs k
abbrev wkX (a b:Value):Obj:= .cells #[a,b] 25 (0,0)
abbrev zPlX:Obj:= .cells #[nv 0,nv 0,nv 0] 28 (0,0)
def KpT (b hi:Nat)(A:Option Addr)(n c:Nat)(a:List Tb)(V:World):Prop:=a.length=n∧∃S es,(Row V S 3 A a.length c es∧Reps (TbR V S) a es)∧∀j,S j→(b < j∧j < hi)∧j < V.heap.size
theorem KpT.keep {b hi n c:Nat}{A:Option Addr}{a:List Tb}{V V':World}(h: ∀j,b < j→j < hi→j < V.heap.size→V'.heap[j]? =V.heap[j]?):KpT b hi A n c a V→KpT b hi A n c a V'
 | ⟨e,S,es,⟨h1,h2⟩,h3⟩=> by
  have hk: ∀j,S j→V'.heap[j]? =V.heap[j]? :=fun j hj=> h j (h3 j hj).1.1 (h3 j hj).1.2 (h3 j hj).2
  refine ⟨e,S,es,⟨h1.keep hk,h2.imp fun t vs=> TbR.keep hk t vs⟩,fun j hj=> ⟨(h3 j hj).1,?_⟩⟩
  have:=hk j hj
  rw [Array.getElem?_eq_getElem (h3 j hj).2]at this
  exact (Array.getElem?_eq_some_iff.1 this).1
def ParR (s:List UInt8)(w:World)(e:Ending)(w':World):Prop:= ∃(k:Wk) (A:Option Addr) (n c:Nat) (B:Option Addr) (m d:Nat) (er x y z:Int),e= .returned (.tuple #[.agg #[.slice A n c,.slice B m d],nv er,.agg #[nv x,nv y,nv z]])∧
 (∃S,WkR w' S k (.agg #[.slice A n c,.slice B m d])∧In w.heap.size w' S)∧okWw k∧Y.W 1 (toksW k)≤3 * s.length
theorem ParR.no {s:List UInt8}{w w':World}{er x y z:Int}:ParR s w (.returned (.tuple #[.agg #[.slice none 0 0,.slice none 0 0],nv er,.agg #[nv x,nv y,nv z]])) w':=
 ⟨⟨[],[]⟩,none,0,0,none,0,0,er,x,y,z,rfl,⟨fun _=> False,⟨none,0,[],none,0,[],rfl,⟨Row.nil_,rfl⟩,Row.nil_,rfl⟩,fun _ h=> h.elim⟩,⟨⟨by simp,by simp⟩,by simp,by simp⟩,by simp [toksW,W_nil]⟩
def moreS:Sg→Bool
 | some (_,_::_)=> true
 | _=> false
def set5 (w:World)(b:Nat)(v0 v1 u0 u1 u2:Value):World:=((((w.setCell ⟨b,0,none⟩ v0).setCell ⟨b,1,none⟩ v1).setCell ⟨b+1,0,none⟩ u0).setCell ⟨b+1,1,none⟩ u1).setCell ⟨b+1,2,none⟩ u2
theorem set5_out {w:World}{b:Nat}{T T':TypeId}{a0 a1 c0 c1 c2:Value}(h:w.heap[b]? =some (.cells #[a0,a1] T (0,0))∧w.heap[b+1]? =some (.cells #[c0,c1,c2] T' (0,0)))(v0 v1 u0 u1 u2:Value):
  (((set5 w b v0 v1 u0 u1 u2).cell? ⟨b,0,none⟩=some v0∧(set5 w b v0 v1 u0 u1 u2).cell? ⟨b,1,none⟩=some v1)∧((set5 w b v0 v1 u0 u1 u2).cell? ⟨b+1,0,none⟩=some u0∧(set5 w b v0 v1 u0 u1 u2).cell? ⟨b+1,1,none⟩=some u1)∧(set5 w b v0 v1 u0 u1 u2).cell? ⟨b+1,2,none⟩=some u2)∧Mod [b,b+1] w (set5 w b v0 v1 u0 u1 u2):=by
 have h1:=heap_set (i:=1) (heap_set (i:=0) h.1 v0) v1
 have h2:((w.setCell ⟨b,0,none⟩ v0).setCell ⟨b,1,none⟩ v1).heap[b+1]? =_:=(Below.heap_setCell _ _ _ _ (by simp)).trans ((Below.heap_setCell _ _ _ _ (by simp)).trans h.2)
 obtain ⟨⟨x0,x1⟩,x2⟩:=cells3q (heap_set (i:=2) (heap_set (i:=1) (heap_set (i:=0) h2 u0) u1) u2)
 have h3:(set5 w b v0 v1 u0 u1 u2).heap[b]? =_:=(Below.heap_setCell _ _ _ _ (by simp)).trans ((Below.heap_setCell _ _ _ _ (by simp)).trans ((Below.heap_setCell _ _ _ _ (by simp)).trans h1))
 refine ⟨⟨⟨by rw [Lib.cell_of_heap h3];rfl,by rw [Lib.cell_of_heap h3];rfl⟩,⟨x0,x1⟩,x2⟩,?_⟩
 exact (((((Mod.refl _ _).set (.inl (by simp)) _).set (.inl (by simp)) _).set (.inl (by simp)) _).set (.inl (by simp)) _).set (.inl (by simp)) _
theorem rparse_f (s:List UInt8)(w:World)(hs:s.length≤16384):Calls Tryz.prog 10 #[sv s] w fun e w'=> ParR s w e w'∧Below w.heap.size w w':=by
 go_enter Tryz.func10,Tryz.ntmps10
 go_upto_region 1 with fail
 obtain ⟨w1,hw⟩: ∃W,(w.alloc (.cells #[.slice none 0 0,.slice none 0 0] 25)).alloc (.cells #[nv 0,nv 0,nv 0] 28)=W:=⟨_,rfl⟩
 have Z0:Hid (w1.heap[w.heap.size]? =some (wkX (.slice none 0 0) (.slice none 0 0))∧w1.heap[w.heap.size+1]? =some zPlX):=Lib.hid (by rw [← hw];exact ⟨alloc_old' (alloc_at rfl),alloc_at (by simp)⟩)
 have B1:Hid (Below w.heap.size w w1):=Lib.hid (by rw [← hw];exact ((Below.refl _ _).alloc (Nat.le_refl _) _).alloc (by simp) _)
 rw [hw]
 clear hw
 go_wp2_with fail
 refine (rall_f s w1 hs).mono ?_;rintro e w2 ⟨⟨LA,ln,lc,er,off,rfl,hL⟩,b2⟩
 have HL:=Lib.hid hL
 have hz1:w.heap.size+1 < w1.heap.size:=(Array.getElem?_eq_some_iff.1 Z0.out.2).1
 have hz2:=b2.size
 have B2:=Lib.hid (bthen B1.out b2)
 replace Z0:=Lib.hid (And.intro ((b2.block _ (by omega)).trans Z0.out.1) ((b2.block _ (by omega)).trans Z0.out.2))
 clear hL b2 B1
 by_cases he:er=0
 ·subst he
  obtain ⟨L,⟨l1,l2,l3,l4⟩,l5⟩:=HL.out rfl
  have W2:=Lib.hid l2
  clear HL
  go_wp2_with fail
  refine (rat_any s _ w2 (by omega)).mono ?_;rintro e w3 ⟨rfl,b3⟩
  obtain ⟨p,q,r,hpl⟩: ∃p q r,plc s (clampI s (s.length:Int))= .agg #[nv p,nv q,nv r]:=⟨_,_,_,rfl⟩
  rw [hpl]
  go_upto_region 6 with fail
  have hz3:=b3.size
  obtain ⟨g,hge⟩: ∃g,w3.heap.size=g:=⟨_,rfl⟩
  obtain ⟨b,hbe⟩: ∃b,g+1=b:=⟨_,rfl⟩
  obtain ⟨w4,hw⟩: ∃W,(w3.alloc (.cells #[.slice LA ln lc,nv 0,nv 0,nv 0,nv 0,nv 0,nv 0,nv p,nv q,nv r] 82)).alloc (.cells #[.slice none 0 0,.slice none 0 0] 25)=W:=⟨_,rfl⟩
  have K4:Below w3.heap.size w3 w4:=by rw [← hw];exact ((Below.refl _ _).alloc (Nat.le_refl _) _).alloc (by simp) _
  have S4:ST w4 g (some (0,L)):=by
   refine ⟨LA,ln,lc,L,0,0,0,0,p,q,r,⟨rfl,Nat.zero_le _,Nat.zero_le _⟩,by rw [← hw,← hge];exact alloc_old' (alloc_at rfl),?_,l1,fun t ht=> by have:=l4 t ht;omega,?_⟩
   ·obtain ⟨xs,h1,h2⟩:=(l5.keep (w':=w4) (fun j hj=> (K4.block j (by omega)).trans (b3.block j hj))).ex
    exact ⟨⟨xs,h1.more (by omega),h2⟩,l5.cap⟩
   ·have:=l5.len
    omega
  have X4:w4.heap[b]? =some (wkX (.slice none 0 0) (.slice none 0 0)):=by rw [← hw];exact alloc_at (by simp;omega)
  have B4:Below w.heap.size w w4:=bthen (bthen B2.out b3) K4
  have F0:Hid (Fr g [g] w w4 (some (0,L)) (Bx g b (wkX (.slice none 0 0) (.slice none 0 0)) (fun V=> (V.heap[w.heap.size]? =some (wkX (.slice none 0 0) (.slice none 0 0))∧V.heap[w.heap.size+1]? =some zPlX)∧Ar TbR 66 3 True V (b+1) none 0 0 [] []))):=
   Lib.hid ⟨by simp,fun _ _=> Bx.st,.of_below B4,S4,⟨by omega,fun V V' m h=> ⟨⟨m.box h.1.1 (by simp;omega),m.box h.1.2 (by simp;omega)⟩,h.2.mod tbF_keep m (fun j hj=> by simp at hj;omega)⟩,X4,⟨⟨(K4.block _ (by omega)).trans ((b3.block _ (by omega)).trans Z0.out.1),(K4.block _ (by omega)).trans ((b3.block _ (by omega)).trans Z0.out.2)⟩,Ar.nil_ _ _⟩⟩⟩
  have hgw:w.heap.size+1 < g:=by omega
  have hgb:g < b:=by omega
  have hb:b ∈ [g]∨w.heap.size≤b:= .inr (by omega)
  have WL:Hid (Y.W 1 L≤3 * s.length):=Lib.hid l2
  have hbe2:b≤w4.heap.size:=by have:=(Array.getElem?_eq_some_iff.1 X4).1;omega
  rw [hw]
  have hge2:=hbe
  rw [hge]
  first | rw [hbe] | skip
  clear hw K4 S4 X4 B4 l1 l2 l3 l4 l5 hpl b3 B2 Z0 hge hbe hge2 W2
  obtain ⟨σ0,hσ0⟩: ∃x,x=some (0,L):=⟨_,rfl⟩
  have HS:=Lib.hid hσ0
  rw [← hσ0]at F0
  clear hσ0
  go_loopw [] (fun wr=> ∃(k:Nat) (A:Option Addr) (c:Nat) (a:List Tb) (xs:List Value) (σr:Sg),Hid (Fr g [g] w wr σr (Bx g b (wkX (.slice A k c) (.slice none 0 0)) (fun V=> (V.heap[w.heap.size]? =some (wkX (.slice none 0 0) (.slice none 0 0))∧V.heap[w.heap.size+1]? =some zPlX)∧Ar TbR 66 3 True V (b+1) A k c a xs)))∧Hid (EatL σ0 σr (Y.W 1 (a.flatMap toksTb)))∧Hid (σr≠none→a.length≤8∧∀t ∈ a,okT t)) (fun wr=> lenE wr g)
  case atStart=> exact ⟨0,none,0,[],[],σ0,F0,Lib.hid fun d r h=> ⟨r,h,Nat.le_refl _,by simp [W_nil]⟩,Lib.hid fun _=> ⟨by simp,by simp⟩⟩
  case round=>
   clear F0
   obtain ⟨k,A,c,a,xs,σr,F,E,N⟩:=hrel
   have HM:=Lib.hid F.out.s.lenE
   go_upto_region 6 with fail
   go_cut [39] (fun v wx=> ∃bv,v= .bool bv∧Hid (Fr g [g] w wx σr (Bx g b (wkX (.slice A k c) (.slice none 0 0)) (fun V=> (V.heap[w.heap.size]? =some (wkX (.slice none 0 0) (.slice none 0 0))∧V.heap[w.heap.size+1]? =some zPlX)∧Ar TbR 66 3 True V (b+1) A k c a xs)))∧(bv=true→0 < lenE wr g))
   case first=>
    obtain ⟨ev,c3,he⟩:=F.out.s.e
    cases σr with
    | none=>
     go_wp2_with fail
     go_meet
     exact ⟨false,rfl,F,fun h=> nomatch h⟩
    | some y=>
     go_wp2_with fail
     refine (Fr.text F).mono ?_;rintro e w2 ⟨rfl,F2⟩
     go_wp2_with fail
     go_meet
     exact ⟨_,rfl,F2,fun _=> by rw [HM.out];simp [lenG]⟩
   case rest=>
    clear F
    obtain ⟨bv,rfl,F2,hpos⟩:=hcut
    obtain ⟨w2,hw⟩: ∃W,wc=W:=⟨_,rfl⟩
    rw [hw]at F2
    rw [hw]
    clear hw
    cases bv with
    | false=>
     have hT:=F2.out.p.q.2
     have hR:=hT.own
     obtain ⟨w7,hw7⟩: ∃x,x=w2:=⟨_,rfl⟩
     subst hw7
     have M7:=Lib.hid F2.out.m
     obtain ⟨lo,hlo⟩: ∃x,x=w7.heap.size:=⟨_,rfl⟩
     have hblo:b < lo:=by have:=(Array.getElem?_eq_some_iff.1 F2.out.p.x).1;omega
     have hb:b ∈ [g,b]∨w7.heap.size≤b:= .inl (by simp)
     obtain ⟨S,hS1,hS2⟩:=hT.tr trivial
     have F7:Hid (Fr g [g,b] w7 w7 σr (Bx g b (wkX (.slice A k c) (.slice none 0 0)) (fun V=> ((V.heap[w.heap.size]? =some (wkX (.slice none 0 0) (.slice none 0 0))∧V.heap[w.heap.size+1]? =some zPlX)∧KpT b lo A k c a V)∧Ar PcR 41 6 (σr≠none) V lo none 0 0 [] []))):=Lib.hid ⟨by simp,fun _ _=> Bx.st,Mod.refl _ _,F2.out.s,⟨hgb,fun V V' m h=> ⟨⟨⟨m.box h.1.1.1 (by simp;omega),m.box h.1.1.2 (by simp;omega)⟩,h.1.2.keep fun j h2 _ h3=> m.block j h3 (by simp;omega)⟩,h.2.mod pcF_keep m (fun j hj=> by simp at hj;omega)⟩,F2.out.p.x,⟨F2.out.p.q.1,hT.len,fun j=> S j∨(Value.slice A k c).ownBlock=some j,xs,⟨by rw [hT.len];exact Row.of_own hR (fun _ h=> .inr h),hS1.imp fun y us hy=> TbR.mono (fun _ h=> .inl h) y us hy⟩,fun j hj=> by
      rcases hj with h | h
      ·have:=hS2 j h
       omega
      ·have:=hR.lt j h
       omega⟩,Ar.nil_ _ _⟩⟩
     obtain ⟨TA,hTA⟩: ∃x,x=A:=⟨_,rfl⟩
     obtain ⟨tk,htk⟩: ∃x,x=k:=⟨_,rfl⟩
     obtain ⟨tc,htc⟩: ∃x,x=c:=⟨_,rfl⟩
     obtain ⟨ta,hta⟩: ∃x,x=a:=⟨_,rfl⟩
     subst hTA htk htc hta
     have E7:=E
     have N7:=N
     obtain ⟨σ7,hs7⟩: ∃x,x=σr:=⟨_,rfl⟩
     subst hs7
     have hlw:w.heap.size≤lo:=by omega
     clear E N HM F2 hT hR hS1 hS2 hpos
     go_wp2_with fail
     go_loopw [] (fun wr=> ∃(k:Nat) (A:Option Addr) (c:Nat) (a:List Pc) (xs:List Value) (σr:Sg),Hid (Fr g [g,b] w7 wr σr (Bx g b (wkX (.slice TA tk tc) (.slice A k c)) (fun V=> ((V.heap[w.heap.size]? =some (wkX (.slice none 0 0) (.slice none 0 0))∧V.heap[w.heap.size+1]? =some zPlX)∧KpT b lo TA tk tc ta V)∧Ar PcR 41 6 (σr≠none) V lo A k c a xs)))∧Hid (EatL σ0 σr (Y.W 1 (ta.flatMap toksTb)+Y.W 1 (a.flatMap toksP)))∧Hid (σr≠none→(a.length≤8∧∀t ∈ a,okPw t)∧ta.length≤8∧∀t ∈ ta,okT t)) (fun wr=> lenE wr g)
     case atStart=> exact ⟨0,none,0,[],[],σ7,F7,Lib.hid fun d r h=> by obtain ⟨l,h1,h2,h3⟩:=E7.out d r h;exact ⟨l,h1,h2,by simp [W_nil];omega⟩,Lib.hid fun h=> ⟨⟨by simp,by simp⟩,N7.out h⟩⟩
     case round=>
      clear F7 E7 N7
      obtain ⟨k,A,c,a,xs,σr,F,E,N⟩:=hrel
      have HM:=Lib.hid F.out.s.lenE
      go_upto_region 10 with fail
      go_cut [62] (fun v wx=> ∃bv,v= .bool bv∧Hid (Fr g [g,b] w7 wx σr (Bx g b (wkX (.slice TA tk tc) (.slice A k c)) (fun V=> ((V.heap[w.heap.size]? =some (wkX (.slice none 0 0) (.slice none 0 0))∧V.heap[w.heap.size+1]? =some zPlX)∧KpT b lo TA tk tc ta V)∧Ar PcR 41 6 (σr≠none) V lo A k c a xs)))∧(bv=true→0 < lenE wr g))
      case first=>
       obtain ⟨ev,c3,he⟩:=F.out.s.e
       cases σr with
       | none=>
        go_wp2_with fail
        go_meet
        exact ⟨false,rfl,F,fun h=> nomatch h⟩
       | some y=>
        go_wp2_with fail
        refine (Fr.text F).mono ?_;rintro e w2 ⟨rfl,F2⟩
        go_wp2_with fail
        go_meet
        exact ⟨_,rfl,F2,fun _=> by rw [HM.out];simp [lenG]⟩
      case rest=>
       clear F
       obtain ⟨bv,rfl,F2,hpos⟩:=hcut
       obtain ⟨w2,hw⟩: ∃W,wc=W:=⟨_,rfl⟩
       rw [hw]at F2
       rw [hw]
       clear hw
       cases bv with
       | false=>
        go_upto_region 14 with fail
        go_cut [85] (fun v wx=> v= .bool (moreS σr)∧Hid (Fr g [g,b] w7 wx σr (Bx g b (wkX (.slice TA tk tc) (.slice A k c)) (fun V=> ((V.heap[w.heap.size]? =some (wkX (.slice none 0 0) (.slice none 0 0))∧V.heap[w.heap.size+1]? =some zPlX)∧KpT b lo TA tk tc ta V)∧Ar PcR 41 6 (σr≠none) V lo A k c a xs))))
        case first=>
         have F8:=F2.out.next (Below.refl _ _).drew
         rcases F2.out.s.v3 with ⟨QA,qn,qc,d,e,qa,qb,x,p1,q1,r1,⟨hbox,hn,hc1,hc2⟩,hno⟩ | ⟨d,t,l,QA,qn,qc,L1,i,qa,qb,x,p1,q1,r1,rfl,hr,hi,ht⟩
         ·have HB:=Lib.hid hbox
          have HM0:Hid (moreS σr=false):=Lib.hid (by rcases hno with ⟨rfl,_⟩ | ⟨_,rfl,_⟩ <;> rfl)
          clear hbox hno
          refine wp_region_sched [(0,true),(1,true),(2,true),(3,true),(4,true),(5,true),(6,true),(7,true),(8,true),(9,true)] (by kernel_rfl) (by kernel_rfl) (fun _ _ d _ _ h=> by cases d <;> exact h) ?_
          refine swith (fun W hW=> (cells10 (box_next HB.out ((Below.refl _ _).drew.trans hW.out)))) (fun qx=> ?_)
          repeat (first | (refine srE ?_;simp only [Act.put,sA,sB,sC]) | (refine skE ?_;simp only [Act.put,sA,sB,sC]))
          refine sdone ?_
          go_wp2_with fail
          go_meet
          exact ⟨by rw [HM0.out],F8⟩
         ·have HB:=Lib.hid hr.box
          have hcap:=hr.row.cap
          have hn:=hr.len
          have hin:i < qn:=by have:=hr.row.len;omega
          have hii:(i:Int) < (qn:Int):=by omega
          clear hr ht hi L1
          refine wp_region_sched [(0,true),(1,true),(2,true),(3,true),(4,true),(5,true),(6,true),(7,true),(8,true),(9,true)] (by kernel_rfl) (by kernel_rfl) (fun _ _ d _ _ h=> by cases d <;> exact h) ?_
          refine swith (fun W hW=> (cells10 (box_next HB.out ((Below.refl _ _).drew.trans hW.out)))) (fun qx=> ?_)
          repeat (first | (refine srE ?_;simp only [Act.put,sA,sB,sC]) | (refine skE ?_;simp only [Act.put,sA,sB,sC]))
          refine sdone ?_
          go_wp2_with fail
          go_meet
          exact ⟨rfl,F8⟩
        case rest=>
         clear F2
         obtain ⟨rfl,F2⟩:=hcut
         obtain ⟨bv,hbv⟩: ∃v,moreS σr=v:=⟨_,rfl⟩
         rw [hbv]
         clear hbv
         go_upto_if 85 with fail
         go_cut [] (fun wx=> ∃σ8,Hid (Fr g [g,b] w7 wx σ8 (Bx g b (wkX (.slice TA tk tc) (.slice A k c)) (fun V=> ((V.heap[w.heap.size]? =some (wkX (.slice none 0 0) (.slice none 0 0))∧V.heap[w.heap.size+1]? =some zPlX)∧KpT b lo TA tk tc ta V)∧Ar PcR 41 6 (σr≠none) V lo A k c a xs)))∧Hid (σ8≠none→σ8=σr))
         case first=>
          cases bv with
          | true=>
           go_wp2_with fail
           refine (Fr.fail F2 13 (by decide)).mono ?_;rintro e w3 ⟨rfl,F3⟩
           go_wp2_with fail
           go_meet
           exact ⟨none,F3,Lib.hid fun h=> absurd rfl h⟩
          | false=>
           go_wp2_with fail
           go_meet
           exact ⟨σr,F2,Lib.hid fun _=> rfl⟩
         case rest=>
          clear F2
          obtain ⟨σ8,F8,S8⟩:=hcut
          obtain ⟨w8,hw⟩: ∃W,wc=W:=⟨_,rfl⟩
          rw [hw]at F8
          rw [hw]
          clear hw
          have B8:Hid (Below w.heap.size w w8):=Lib.hid ((M7.out.below (by omega) (by simp;omega)).trans (F8.out.m.below (by omega) (by simp;omega)))
          obtain ⟨QA,qn,qc,iv,dv,ev,qa,qb,x,p1,q1,r1,hbox,hev,_⟩:=F8.out.s.box
          have HB:=Lib.hid hbox
          have Z0:=Lib.hid F8.out.p.q.1.1
          cases σ8 with
          | none=>
           have he:(ev !=0)=true:=by simpa using hev.1 rfl
           obtain ⟨⟨⟨x0,x1⟩,x2,x3⟩,⟨⟨x4,x5⟩,x6,x7⟩,x8,x9⟩:=cells10 hbox
           clear hbox hev
           go_wp2_with fail
           clear x0 x1 x2 x3 x4 x5 x6 x7 x8 x9
           refine wp_region_schedB [g] [(0,true),(1,true),(2,true),(3,true),(4,true),(5,true),(6,true),(7,true),(8,true),(9,false),(10,true),(11,false)] (by kernel_rfl) (by kernel_rfl) (fun _ _ d _ _ h=> by cases d <;> exact h) ?_
           obtain ⟨wd,hwd⟩: ∃W,w8.drew=W:=⟨_,rfl⟩
           have HB9:Hid (wd.heap[g]? =some (rfB QA qn qc iv dv ev qa qb x p1 q1 r1)):=Lib.hid (by rw [← hwd];exact HB.out)
           replace Z0:Hid (wd.heap[w.heap.size]? =some (wkX (.slice none 0 0) (.slice none 0 0))∧wd.heap[w.heap.size+1]? =some zPlX):=Lib.hid (by rw [← hwd];exact Z0.out)
           have B9:Hid (Below w.heap.size w wd):=Lib.hid (by rw [← hwd];exact B8.out.drew)
           rw [hwd]
           clear hwd B8 HB
           refine bwith (fun W hW=> (cells10 ((hW g (by simp)).trans HB9.out))) (fun qx=> ?_)
           repeat (first | (refine brE ?_;simp only [Act.put,sA,sB,sC]) | (refine bkE ?_;simp only [Act.put,sA,sB,sC]))
           have y20:wd.cell? ⟨w.heap.size,0,none⟩=some (.slice none 0 0):=by rw [Lib.cell_of_heap Z0.out.1];rfl
           have y21:wd.cell? ⟨w.heap.size,1,none⟩=some (.slice none 0 0):=by rw [Lib.cell_of_heap Z0.out.1];rfl
           obtain ⟨⟨y40,y41⟩,y42⟩:=cells3q Z0.out.2
           obtain ⟨⟨f40,f41⟩,f42⟩:=frozen3p Z0.out.2
           have f20:=Lib.frozen_of_heap Z0.out.1 0
           have f21:=Lib.frozen_of_heap Z0.out.1 1
           refine bcall rfl rfl (fun K hK=> ?_)
           go_simp
           refine hK.out _ _ (fun b' hb'=> by simp at hb';rw [hb',Below.heap_setCell _ _ _ _ (by simp only;omega),Below.heap_setCell _ _ _ _ (by simp only;omega)]) ?_
           clear hK K
           try simp only [Act.put,sA,sB,sC]
           clear qx
           repeat (first | (refine brE ?_;simp only [Act.put,sA,sB,sC]) | (refine bkE ?_;simp only [Act.put,sA,sB,sC]))
           refine bcall rfl rfl (fun K hK=> ?_)
           go_simp
           refine hK.out _ _ (fun b' hb'=> by simp at hb';rw [hb',Below.heap_setCell _ _ _ _ (by simp only;omega),Below.heap_setCell _ _ _ _ (by simp only;omega),Below.heap_setCell _ _ _ _ (by simp only;omega)]) ?_
           clear hK K
           try simp only [Act.put,sA,sB,sC]
           refine bdone ?_
           clear y20 y21 y40 y41 y42 f40 f41 f42 f20 f21
           go_wp2_with fail
           obtain ⟨⟨⟨y20,y21⟩,⟨y40,y41⟩,y42⟩,M3⟩:=set5_out Z0.out (.slice none 0 0) (.slice none 0 0) (nv qa) (nv qb) (nv x)
           unfold set5 at y20 y21 y40 y41 y42 M3
           refine bodyPost_ret (v:= .tuple #[.agg #[.slice none 0 0,.slice none 0 0],nv ev,.agg #[nv qa,nv qb,nv x]]) (by simp [results,Tryz.results10,go_sem,y20,y21,y40,y41,y42]) rfl ?_
           have hw9:=B9.out.size
           exact ⟨ParR.no,B9.out.trans (M3.below (B:=w.heap.size) (by omega) (by simp))⟩
          | some y8=>
           have he:(ev !=0)=false:=by simpa using hev.2 (by simp)
           obtain ⟨⟨⟨x0,x1⟩,x2,x3⟩,_⟩:=cells10 hbox
           clear hbox hev
           have t0:=F8.out.p.cf 0 rfl
           have t1:=F8.out.p.cf 1 rfl
           have y20:w8.cell? ⟨w.heap.size,0,none⟩=some (.slice none 0 0):=by rw [Lib.cell_of_heap Z0.out.1];rfl
           have y21:w8.cell? ⟨w.heap.size,1,none⟩=some (.slice none 0 0):=by rw [Lib.cell_of_heap Z0.out.1];rfl
           obtain ⟨⟨y40,y41⟩,y42⟩:=cells3q Z0.out.2
           obtain ⟨⟨f40,f41⟩,f42⟩:=frozen3p Z0.out.2
           have f20:=Lib.frozen_of_heap Z0.out.1 0
           have f21:=Lib.frozen_of_heap Z0.out.1 1
           go_wp2_with fail
           clear y20 y21 y40 y41 y42 f40 f41 f42 f20 f21 t0 t1 x0 x1 x2 x3 he
           obtain ⟨⟨⟨y20,y21⟩,⟨y40,y41⟩,y42⟩,M3⟩:=set5_out Z0.out (.slice TA tk tc) (.slice A k c) (nv 0) (nv 0) (nv 0)
           unfold set5 at y20 y21 y40 y41 y42 M3
           refine bodyPost_ret (v:= .tuple #[.agg #[.slice TA tk tc,.slice A k c],nv 0,.agg #[nv 0,nv 0,nv 0]]) (by simp [results,Tryz.results10,go_sem,y20,y21,y40,y41,y42]) rfl ?_
           have hw8:=B8.out.size
           have hr:σr=some y8:=(S8.out (by simp)).symm
           have hn:σr≠none:=by rw [hr];simp
           obtain ⟨ht1,S1,es1,⟨ht2,ht3⟩,ht4⟩:=F8.out.p.q.1.2
           have hP:=F8.out.p.q.2
           obtain ⟨S2,hp1,hp2⟩:=hP.tr hn
           have hp3:=hP.len
           subst ht1 hp3
           obtain ⟨l,e1,e2,e3⟩:=E.out y8.1 y8.2 hr
           rw [HS.out]at e1
           injection e1 with e1
           injection e1 with _ e1
           subst e1
           have hk1: ∀j,S1 j→_=w8.heap[j]? :=fun j hj=> M3.block j (ht4 j hj).2 (by have:=ht4 j hj;simp;omega)
           have hk2: ∀j,S2 j→_=w8.heap[j]? :=fun j hj=> M3.block j (hp2 j hj).2.1 (by have:=hp2 j hj;simp;omega)
           have ho:=own_mod hP.own M3 (fun j hj=> by have:=hP.own.lt j hj;simp;omega)
           refine ⟨⟨⟨ta,a⟩,TA,_,tc,A,_,c,0,0,0,0,rfl,⟨fun j=> S1 j∨S2 j∨(Value.slice A a.length c).ownBlock=some j,⟨TA,tc,es1,A,c,xs,rfl,⟨(ht2.keep hk1).mono fun _ h=> .inl h,ht3.imp fun y us hy=> TbR.mono (fun _ h=> .inl h) y us (TbR.keep hk1 y us hy)⟩,Row.of_own ho (fun _ h=> .inr (.inr h)),hp1.imp fun y us hy=> PcR.mono (fun _ h=> .inr (.inl h)) y us (PcR.keep hk2 y us hy)⟩,fun j hj=> ?_⟩,⟨(N.out hn).2,(N.out hn).1⟩,?_⟩,B8.out.trans (M3.below (B:=w.heap.size) (by omega) (by simp))⟩
           ·rcases hj with hj | hj | hj
            ·have:=ht4 j hj
             exact ⟨by omega,by simp;omega⟩
            ·have:=hp2 j hj
             exact ⟨by omega,by simp;omega⟩
            ·have:=hP.own.lt j hj
             exact ⟨by omega,by simp;omega⟩
           ·unfold toksW
            rw [W_app]
            have:=WL.out
            simp only at *
            omega
       | true=>
        replace hpos:=hpos rfl
        have hr:σr≠none:=fun h=> by
         have:=HM.out
         rw [h]at this
         simp [lenG]at this
         omega
        have hk8:k≤8:=by
         rw [← F2.out.p.q.2.len]
         exact (N.out hr).1.1
        obtain ⟨c0,f0⟩:=F2.out.p.cf 1 rfl
        go_upto_if 66 with fail
        go_cut [] (fun wx=> ∃σ8,Hid (Fr g [g,b] w7 wx σ8 (Bx g b (wkX (.slice TA tk tc) (.slice A k c)) (fun V=> ((V.heap[w.heap.size]? =some (wkX (.slice none 0 0) (.slice none 0 0))∧V.heap[w.heap.size+1]? =some zPlX)∧KpT b lo TA tk tc ta V)∧Ar PcR 41 6 (σr≠none) V lo A k c a xs)))∧Hid (σ8≠none→σ8=σr∧k < 8))
        case first=>
         by_cases hk:k=8
         ·rw [show ((k:Int)==8)=true by simp;omega]
          clear hk
          go_wp2_with fail
          refine (Fr.fail F2 2 (by decide)).mono ?_;rintro e w3 ⟨rfl,F3⟩
          go_wp2_with fail
          go_meet
          exact ⟨none,F3,Lib.hid fun h=> absurd rfl h⟩
         ·rw [show ((k:Int)==8)=false by simp;omega]
          go_wp2_with fail
          go_meet
          exact ⟨σr,F2,Lib.hid fun _=> ⟨rfl,by omega⟩⟩
        case rest=>
         clear F2 c0 f0
         obtain ⟨σ8,F8,S8⟩:=hcut
         go_upto_region 13 with fail
         obtain ⟨wd,hwd⟩: ∃W,wc.drew=W:=⟨_,rfl⟩
         have Fd:Hid (Fr g _ _ wd σ8 _):=Lib.hid (by rw [← hwd];exact (F8.out.next (Below.refl _ _).drew).out)
         clear F8
         refine wp_region_last (l:=[_,_,_,_,_,_,_]) [b] (.read 0 (.read 1 (.read 2 (.call 3 (.call 4 (.call 5 (.read 6 .done))))))) (by kernel_rfl) (by kernel_rfl) (by kernel_rfl) (fun _ _ d _ _ h=> by cases d <;> exact h) ?_
         rw [hwd]
         clear hwd
         refine pwith (fun W hW=> (show W.cell? ⟨b,1,none⟩=some (.slice A k c) from (World.cell?_of_block (a:=⟨b,1,none⟩) (hW b (by simp))).trans (Fd.out.p.cf 1 rfl).1)) (fun k7=> ?_)
         repeat (first | (refine prE ?_;simp only [Act.put,sA,sB,sC]) | (refine pkE ?_;simp only [Act.put,sA,sB,sC]))
         refine pcall rfl rfl (fun K hK=> ?_)
         go_simp
         have hgb:=Fd.out.p.ne
         have hsd:=Fd.out.m.size
         refine (f_proc σ8 wd g Fd.out.s).mono ?_;rintro e w9 ⟨n9,A9,m9',c9,B9,d9,k9,p9,q9,r9,y,σ9,rfl,h9,m9,e9,n9',t9⟩;have E9:=Lib.hid e9;have N9:=Lib.hid n9';have T9:=Lib.hid t9;clear e9 n9' t9
         have F9:=Fd.out.mod m9 h9
         have hbd:b < wd.heap.size:=(Array.getElem?_eq_some_iff.1 Fd.out.p.x).1
         have hkb:w9.heap[b]? =wd.heap[b]? :=m9.block _ hbd (by simp;omega)
         have hd9:=m9.size
         have hb9:b < w9.heap.size:=by omega
         go_wp2_with fail
         refine hK.out _ _ (fun b' hb=> by simp at hb;rw [hb];exact hkb) ?_
         clear hK K hkb k7 h9 m9
         try simp only [Act.put,sA,sB,sC]
         refine pcall rfl rfl (fun K hK=> ?_)
         go_simp
         refine hK.out _ _ (fun b' hb=> Below.heap_alloc _ _ _ (by simp at hb;omega)) ?_
         clear hK K
         try simp only [Act.put,sA,sB,sC]
         obtain ⟨wa,hw⟩: ∃W,w9.alloc (.cells #[sv n9,.slice A9 m9' c9,.slice B9 d9 k9,nv p9,nv q9,nv r9] 41)=W:=⟨_,rfl⟩
         have RD:Hid (Rd wa (w9.heap.size+1) 6 (some ⟨w9.heap.size,0,none⟩) 1 [sv n9,.slice A9 m9' c9,.slice B9 d9 k9,nv p9,nv q9,nv r9]):=Lib.hid (by rw [← hw];exact Rd.made _ _ rfl rfl)
         have Fa:Hid (Fr g _ _ wa σ9 _):=Lib.hid (by rw [← hw];exact (F9.out.next one_new).out)
         have hza:w9.heap.size < wa.heap.size:=by rw [← hw];simp
         have HA:Hid (∀b,b < w9.heap.size→wa.heap[b]? =w9.heap[b]?):=Lib.hid fun b hb=> by rw [← hw];exact Below.heap_alloc _ _ _ hb
         first | rw [hw] | (simp only [nv,sv]at hw;rw [hw])
         clear hw F9
         refine pcall rfl rfl (fun K hK=> ?_)
         have hown: ∀b,(Value.slice A k c).ownBlock=some b→b < wd.heap.size:=fun b h=> (Fd.out.p.q.2.own.lt b h).2
         clear Fd
         refine wapp4 (.tmp 70) (.tmp 73) pc_E rfl (lo) xs rfl Fa.out.p.q.2.own rfl [sv n9,.slice A9 m9' c9,.slice B9 d9 k9,nv p9,nv q9,nv r9] RD.out (by simp [Value.oneCell']) (by unfold maxLen;omega) (by omega) (by omega) rfl ?_
         intro A7 c7 wA o7 g7 h7
         have hn7:some b≠(Value.slice A k c).ownBlock:=fun e=> by have:=(Fa.out.p.q.2.own.lt _ e.symm).1;omega
         refine hK.out _ _ (fun b' hb=> by simp at hb;rw [hb];exact g7.block b (by omega) hn7) ?_
         clear hK K
         try simp only [Act.put,sA,sB,sC]
         repeat (first | (refine prE ?_;simp only [Act.put,sA,sB,sC]) | (refine pkE ?_;simp only [Act.put,sA,sB,sC]))
         refine pdone ?_
         refine last_step rfl (fun K hK=> ?_)
         have x7:=(World.cell?_of_block (a:=⟨b,1,none⟩) (g7.block b (by omega) hn7)).trans (Fa.out.p.cf 1 rfl).1
         have f7:wA.frozen? ⟨b,1,none⟩=false:=Lib.frozen_of_heap ((g7.block b (by omega) hn7).trans Fa.out.p.x) 1
         go_simp
         refine hK.out _ _ ?_
         clear hK K x7 f7
         have FF:=Fa.out.row1 (i:=1) (lo1:=wd.heap.size) pcF_keep pcF_mono (fun V V' h h1=> ⟨⟨(h _ (by omega) (by omega)).trans h1.1.1,(h _ (by omega) (by omega)).trans h1.1.2⟩,h1.2.keep fun j h2 h3 _=> h j h3 (by omega)⟩) (fun V V' m h1=> ⟨⟨m.box h1.1.1 (by simp;omega),m.box h1.1.2 (by simp;omega)⟩,h1.2.keep fun j h2 _ h3=> m.block j h3 (by simp;omega)⟩) hb (by omega) (by omega) (fun h=> by rw [← (S8.out (E9.out.some h)).1];exact E9.out.some h) (by omega) (by omega) hown (y:=y) (fun h=> (T9.out h).imp fun S h=> ⟨PcR.keep (fun j hj=> HA.out j (h.2 j hj).2) _ _ h.1,h.2.next (by omega)⟩) o7 g7 h7 rfl
         obtain ⟨wF,hw⟩: ∃W,wA.setCell ⟨b,1,none⟩ (.slice A7 (k+1) c7)=W:=⟨_,rfl⟩
         rw [hw]at FF
         rw [hw]
         clear hw o7 g7 h7 Fa RD hown hn7
         have H8:Hid (σ9≠none→σ8=σr∧k < 8):=Lib.hid fun h=> S8.out (E9.out.some h)
         have ER:Hid (Eat σr σ9 (Y.W 1 (toksP y))):=Lib.hid fun d r h=> by
          rw [← (H8.out (by rw [h];simp)).1]
          exact E9.out d r h
         clear S8
         go_wp2_with fail
         go_roundw
         case rel=>
          refine ⟨k+1,A7,c7,a ++ [y],_,σ9,FF,Lib.hid (E.out.trans ER.out (by rw [List.flatMap_append,W_app];simp <;> omega)),Lib.hid fun h=> ?_⟩
          obtain ⟨⟨h1,h2⟩,h5⟩:=N.out (ER.out.some h)
          have h3:=(H8.out h).2
          have h4:=FF.out.p.q.2.len
          exact ⟨⟨by omega,fun x hx=> (List.mem_append.1 hx).elim (h2 x) (fun h0=> by simp at h0;rw [h0];exact N9.out h)⟩,h5⟩
         case measure=>
          have h1:=HM.out
          have h2:=FF.out.s.lenE
          have h3:=ER.out.less (by omega)
          omega
    | true=>
     replace hpos:=hpos rfl
     have hr:σr≠none:=fun h=> by
      have:=HM.out
      rw [h]at this
      simp [lenG]at this
      omega
     have hk8:k≤8:=by
      rw [← F2.out.p.q.2.len]
      exact (N.out hr).1
     obtain ⟨c0,f0⟩:=F2.out.p.cf 0 rfl
     go_upto_if 43 with fail
     go_cut [] (fun wx=> ∃σ8,Hid (Fr g [g] w wx σ8 (Bx g b (wkX (.slice A k c) (.slice none 0 0)) (fun V=> (V.heap[w.heap.size]? =some (wkX (.slice none 0 0) (.slice none 0 0))∧V.heap[w.heap.size+1]? =some zPlX)∧Ar TbR 66 3 True V (b+1) A k c a xs)))∧Hid (σ8≠none→σ8=σr∧k < 8))
     case first=>
      by_cases hk:k=8
      ·rw [show ((k:Int)==8)=true by simp;omega]
       clear hk
       go_wp2_with fail
       refine (Fr.fail F2 2 (by decide)).mono ?_;rintro e w3 ⟨rfl,F3⟩
       go_wp2_with fail
       go_meet
       exact ⟨none,F3,Lib.hid fun h=> absurd rfl h⟩
      ·rw [show ((k:Int)==8)=false by simp;omega]
       go_wp2_with fail
       go_meet
       exact ⟨σr,F2,Lib.hid fun _=> ⟨rfl,by omega⟩⟩
     case rest=>
      clear F2 c0 f0
      obtain ⟨σ8,F8,S8⟩:=hcut
      go_upto_region 9 with fail
      obtain ⟨wd,hwd⟩: ∃W,wc.drew=W:=⟨_,rfl⟩
      have Fd:Hid (Fr g _ _ wd σ8 _):=Lib.hid (by rw [← hwd];exact (F8.out.next (Below.refl _ _).drew).out)
      clear F8
      refine wp_region_last (l:=[_,_,_,_,_,_,_]) [b] (.read 0 (.read 1 (.read 2 (.call 3 (.call 4 (.call 5 (.read 6 .done))))))) (by kernel_rfl) (by kernel_rfl) (by kernel_rfl) (fun _ _ d _ _ h=> by cases d <;> exact h) ?_
      rw [hwd]
      clear hwd
      refine pwith (fun W hW=> (show W.cell? ⟨b,0,none⟩=some (.slice A k c) from (World.cell?_of_block (a:=⟨b,0,none⟩) (hW b (by simp))).trans (Fd.out.p.cf 0 rfl).1)) (fun k7=> ?_)
      repeat (first | (refine prE ?_;simp only [Act.put,sA,sB,sC]) | (refine pkE ?_;simp only [Act.put,sA,sB,sC]))
      refine pcall rfl rfl (fun K hK=> ?_)
      go_simp
      have hgb:=Fd.out.p.ne
      have hsd:=Fd.out.m.size
      refine (f_table σ8 wd g Fd.out.s).mono ?_;rintro e w9 ⟨y,A9,c9,σ9,rfl,h9,m9,e9,n9,t9⟩;have E9:=Lib.hid e9;have N9:=Lib.hid n9;have T9:=Lib.hid t9;clear e9 n9 t9
      have F9:=Fd.out.mod m9 h9
      have hbd:b < wd.heap.size:=(Array.getElem?_eq_some_iff.1 Fd.out.p.x).1
      have hkb:w9.heap[b]? =wd.heap[b]? :=m9.block _ hbd (by simp;omega)
      have hd9:=m9.size
      have hb9:b < w9.heap.size:=by omega
      go_wp2_with fail
      refine hK.out _ _ (fun b' hb=> by simp at hb;rw [hb];exact hkb) ?_
      clear hK K hkb k7 h9 m9
      try simp only [Act.put,sA,sB,sC]
      refine pcall rfl rfl (fun K hK=> ?_)
      go_simp
      refine hK.out _ _ (fun b' hb=> Below.heap_alloc _ _ _ (by simp at hb;omega)) ?_
      clear hK K
      try simp only [Act.put,sA,sB,sC]
      obtain ⟨wa,hw⟩: ∃W,w9.alloc (.cells #[sv y.name,nv y.rows,.slice A9 y.cols.length c9] 66)=W:=⟨_,rfl⟩
      have RD:Hid (Rd wa (w9.heap.size+1) 3 (some ⟨w9.heap.size,0,none⟩) 1 [sv y.name,nv y.rows,.slice A9 y.cols.length c9]):=Lib.hid (by rw [← hw];exact Rd.made _ _ rfl rfl)
      have Fa:Hid (Fr g _ _ wa σ9 _):=Lib.hid (by rw [← hw];exact (F9.out.next one_new).out)
      have hza:w9.heap.size < wa.heap.size:=by rw [← hw];simp
      have HA:Hid (∀b,b < w9.heap.size→wa.heap[b]? =w9.heap[b]?):=Lib.hid fun b hb=> by rw [← hw];exact Below.heap_alloc _ _ _ hb
      first | rw [hw] | (simp only [nv,sv]at hw;rw [hw])
      clear hw F9
      refine pcall rfl rfl (fun K hK=> ?_)
      have hown: ∀b,(Value.slice A k c).ownBlock=some b→b < wd.heap.size:=fun b h=> (Fd.out.p.q.2.own.lt b h).2
      clear Fd
      refine wapp4 (.tmp 47) (.tmp 50) tb_E rfl (b+1) xs rfl Fa.out.p.q.2.own rfl [sv y.name,nv y.rows,.slice A9 y.cols.length c9] RD.out (by simp [Value.oneCell']) (by unfold maxLen;omega) (by omega) (by omega) rfl ?_
      intro A7 c7 wA o7 g7 h7
      have hn7:some b≠(Value.slice A k c).ownBlock:=fun e=> by have:=(Fa.out.p.q.2.own.lt _ e.symm).1;omega
      refine hK.out _ _ (fun b' hb=> by simp at hb;rw [hb];exact g7.block b (by omega) hn7) ?_
      clear hK K
      try simp only [Act.put,sA,sB,sC]
      repeat (first | (refine prE ?_;simp only [Act.put,sA,sB,sC]) | (refine pkE ?_;simp only [Act.put,sA,sB,sC]))
      refine pdone ?_
      refine last_step rfl (fun K hK=> ?_)
      have x7:=(World.cell?_of_block (a:=⟨b,0,none⟩) (g7.block b (by omega) hn7)).trans (Fa.out.p.cf 0 rfl).1
      have f7:wA.frozen? ⟨b,0,none⟩=false:=Lib.frozen_of_heap ((g7.block b (by omega) hn7).trans Fa.out.p.x) 0
      go_simp
      refine hK.out _ _ ?_
      clear hK K x7 f7
      have FF:=Fa.out.row1 (i:=0) (lo1:=wd.heap.size) tbF_keep tbF_mono (fun V V' h h1=> ⟨(h _ (by omega) (by omega)).trans h1.1,(h _ (by omega) (by omega)).trans h1.2⟩) (fun V V' m h1=> ⟨m.box h1.1 (by simp;omega),m.box h1.2 (by simp;omega)⟩) hb (by omega) (by omega) (fun h=> h) (by omega) (by omega) hown (y:=y) (fun _=> T9.out.imp fun S h=> ⟨TbR.keep (fun j hj=> HA.out j (h.2 j hj).2) _ _ h.1,h.2.next (by omega)⟩) o7 g7 h7 rfl
      obtain ⟨wF,hw⟩: ∃W,wA.setCell ⟨b,0,none⟩ (.slice A7 (k+1) c7)=W:=⟨_,rfl⟩
      rw [hw]at FF
      rw [hw]
      clear hw o7 g7 h7 Fa RD hown hn7
      have H8:Hid (σ9≠none→σ8=σr∧k < 8):=Lib.hid fun h=> S8.out (E9.out.some h)
      have ER:Hid (Eat σr σ9 (Y.W 1 (toksTb y))):=Lib.hid fun d r h=> by
       rw [← (H8.out (by rw [h];simp)).1]
       exact E9.out d r h
      clear S8
      go_wp2_with fail
      go_roundw
      case rel=>
       refine ⟨k+1,A7,c7,a ++ [y],_,σ9,FF,Lib.hid (E.out.trans ER.out (by rw [List.flatMap_append,W_app];simp <;> omega)),Lib.hid fun h=> ?_⟩
       obtain ⟨h1,h2⟩:=N.out (ER.out.some h)
       have h3:=(H8.out h).2
       have h4:=FF.out.p.q.2.len
       exact ⟨by omega,fun x hx=> (List.mem_append.1 hx).elim (h2 x) (fun h0=> by simp at h0;rw [h0];exact N9.out h)⟩
      case measure=>
       have h1:=HM.out
       have h2:=FF.out.s.lenE
       have h3:=ER.out.less (by omega)
       omega
 ·have he':(er !=0)=true:=by simpa using he
  clear HL he
  go_wp2_with fail
  refine (rat_any s off w2 (by omega)).mono ?_;rintro e w3 ⟨rfl,b3⟩
  obtain ⟨p,q,r,hpl⟩: ∃p q r,plc s (clampI s off)= .agg #[nv p,nv q,nv r]:=⟨_,_,_,rfl⟩
  rw [hpl]
  have hz3:=b3.size
  replace Z0:=Lib.hid (And.intro ((b3.block _ (by omega)).trans Z0.out.1) ((b3.block _ (by omega)).trans Z0.out.2))
  have B3:=Lib.hid (bthen B2.out b3)
  clear hpl b3 B2
  have y20:w3.cell? ⟨w.heap.size,0,none⟩=some (.slice none 0 0):=by rw [Lib.cell_of_heap Z0.out.1];rfl
  have y21:w3.cell? ⟨w.heap.size,1,none⟩=some (.slice none 0 0):=by rw [Lib.cell_of_heap Z0.out.1];rfl
  obtain ⟨⟨y40,y41⟩,y42⟩:=cells3q Z0.out.2
  obtain ⟨⟨f40,f41⟩,f42⟩:=frozen3p Z0.out.2
  have f20:=Lib.frozen_of_heap Z0.out.1 0
  have f21:=Lib.frozen_of_heap Z0.out.1 1
  go_wp2_with fail
  obtain ⟨⟨⟨y20,y21⟩,⟨y40,y41⟩,y42⟩,M3⟩:=set5_out Z0.out (.slice none 0 0) (.slice none 0 0) (nv p) (nv q) (nv r)
  unfold set5 at y20 y21 y40 y41 y42 M3
  refine bodyPost_ret (v:= .tuple #[.agg #[.slice none 0 0,.slice none 0 0],nv er,.agg #[nv p,nv q,nv r]]) (by simp [results,Tryz.results10,go_sem,y20,y21,y40,y41,y42]) rfl ?_
  exact ⟨ParR.no,B3.out.trans (M3.below (B:=w.heap.size) (by omega) (by simp))⟩
end Go.Proofs.YtnbmpfdffoidaaaGreatDoor.Y
namespace Go.Proofs.YtnbmpfdffoidaaaGreatDoor.Y
open Go.RowKit O V S X
def RC (w:World)(S:Nat→Prop)(A:Option Addr)(c:Nat)(l:List Cl):Prop:= ∃es,Row w S 3 A l.length c es∧Reps ClR l es
theorem RC.keep {w w':World}{S:Nat→Prop}{A:Option Addr}{c:Nat}{l:List Cl}(h:RC w S A c l)(hk: ∀b,S b→w'.heap[b]? =w.heap[b]?):RC w' S A c l:=by
 obtain ⟨es,h1,h2⟩:=h
 exact ⟨es,h1.keep hk,h2⟩
theorem RC.cap {w:World}{S:Nat→Prop}{A:Option Addr}{c:Nat}{l:List Cl}(h:RC w S A c l):l.length≤c∧c≤9223372036854775807:=by
 obtain ⟨es,h1,_⟩:=h
 exact h1.cap
theorem RC.at_ {w:World}{S:Nat→Prop}{l:List Cl}{A:Option Addr}{c:Nat}(h:RC w S A c l){B:Nat}(hS: ∀b,S b→b < B){i:Nat}(hi:i < l.length):
  ∃b off,(A=some ⟨b,off,none⟩∧b < B)∧∀W:World,(∀b,S b→W.heap[b]? =w.heap[b]?)→(W.cell? ⟨b,off+i * 3,none⟩=some (sv l[i].name)∧W.cell? ⟨b,off+i * 3+1,none⟩=some (nv l[i].k))∧W.cell? ⟨b,off+i * 3+2,none⟩=some (nv l[i].m):=by
 obtain ⟨es,h1,h2⟩:=h
 obtain ⟨b,off,vs,e,hb,hr,hc⟩:=(h1.rd hS).elem ClR.size h2 hi (by omega)
 obtain rfl:vs=_:=hr
 refine ⟨b,off,⟨e,hb⟩,fun W hW=> ?_⟩
 obtain ⟨b',off',e',hS',_⟩:=h1.pos (by have:=h1.len;omega)
 rw [e]at e'
 injection e' with e'
 injection e' with e1 e2
 subst e1 e2
 have hk: ∀j,W.cell? ⟨b,j,none⟩=w.cell? ⟨b,j,none⟩:=fun j=> World.cell?_of_block (a:=⟨b,j,none⟩) (hW b hS')
 refine ⟨⟨?_,?_⟩,?_⟩ <;> rw [hk]
 ·exact hc 0 (by omega)
 ·exact hc 1 (by omega)
 ·exact hc 2 (by omega)
theorem Cl.same {x y:Cl}(h1:x.name=y.name)(h2:x.k=y.k)(h3:x.m=y.m):x=y:=by
 cases x;cases y;simp_all
theorem cneq_yes {x y:Cl}(h:x≠y)(w:World):(binOp .neq 72 (.agg #[.string ⟨x.name.toArray⟩,.int .i64 x.k,.int .i64 x.m]) (.agg #[.string ⟨y.name.toArray⟩,.int .i64 y.k,.int .i64 y.m])).run Tryz.prog w= .ok (.bool true) w:=by
 go_simp
 exact fun h1 h2 h3=> h (Cl.same h1 h2 h3)
theorem cneq_no (x:Cl)(w:World):(binOp .neq 72 (.agg #[.string ⟨x.name.toArray⟩,.int .i64 x.k,.int .i64 x.m]) (.agg #[.string ⟨x.name.toArray⟩,.int .i64 x.k,.int .i64 x.m])).run Tryz.prog w= .ok (.bool false) w:=by
 go_simp
theorem sameTab_any (t u:Tb)(A B:Option Addr)(c c':Nat)(S S':Nat→Prop)(w:World)(h1:RC w S A c t.cols)(h2:RC w S' B c' u.cols)(hS: ∀b,S b→b < w.heap.size)(hS': ∀b,S' b→b < w.heap.size):
  Calls Tryz.prog 24 #[.agg #[sv t.name,nv t.rows,.slice A t.cols.length c],.agg #[sv u.name,nv u.rows,.slice B u.cols.length c']] w fun e w'=> RetQ (t=u) e∧Below w.heap.size w w':=by
 obtain ⟨tn,tr,tc⟩:=t
 obtain ⟨un,ur,uc⟩:=u
 dsimp only at h1 h2⊢
 have hcl:=h1.cap
 have hcm:=h2.cap
 have H1:=Lib.hid h1
 have H2:=Lib.hid h2
 have HS:=Lib.hid hS
 have HS':=Lib.hid hS'
 clear h1 h2 hS hS'
 have D0:Below w.heap.size w ((w.alloc (.cells #[sv tn,nv tr,.slice A tc.length c] 66)).alloc (.cells #[sv un,nv ur,.slice B uc.length c'] 66)):=by repeat (first | exact Below.refl _ _ | refine Below.alloc ?_ (by first | omega | (simp <;> omega)) _)
 by_cases e0:tn=un
 ·subst e0
  have s1:=fun w=> sneq_no tn w
  by_cases e1:tr=ur
  ·subst e1
   by_cases e2:tc.length=uc.length
   ·obtain ⟨n,hn⟩: ∃n,tc.length=n:=⟨_,rfl⟩
    have hn2:uc.length=n:=by omega
    have HN:=Lib.hid hn
    have HN2:=Lib.hid hn2
    rw [hn]at hcl D0⊢
    rw [hn2]at hcm D0⊢
    clear hn hn2 e2
    go_enter Tryz.func24,Tryz.ntmps24
    go_upto_region 3 with fail
    obtain ⟨w2,hw2⟩: ∃W,(w.alloc (.cells #[sv tn,nv tr,.slice A n c] 66)).alloc (.cells #[sv tn,nv tr,.slice B n c'] 66)=W:=⟨_,rfl⟩
    have X1:Hid (w2.heap[w.heap.size]? =some (.cells #[sv tn,nv tr,.slice A n c] 66 (0,0))):=Lib.hid (by rw [← hw2];exact alloc_old' (alloc_at rfl))
    have X2:Hid (w2.heap[w.heap.size+1]? =some (.cells #[sv tn,nv tr,.slice B n c'] 66 (0,0))):=Lib.hid (by rw [← hw2];exact alloc_at (by simp))
    rw [hw2]at D0⊢
    clear hw2
    obtain ⟨u0,u1,u2⟩:=cells3 X1.out
    go_wp2_with fail
    go_loopw [4,30] (fun _ i wr=> ∃k:Nat,k≤n∧i= .int .i64 k∧Hid (tc.take k=uc.take k)∧Hid (Below w2.heap.size w2 wr)) (fun _ i _=> n - (intOf i).toNat)
    case atStart=> exact ⟨0,by omega,rfl,Lib.hid (by simp),Lib.hid (Below.refl _ _)⟩
    case round=>
     obtain ⟨k,hk,rfl,H,hb⟩:=hrel
     by_cases hlt:k < n
     ·have hlt':k < tc.length:=by rw [HN.out];exact hlt
      have hlt2:k < uc.length:=by rw [HN2.out];exact hlt
      have hki:(k:Int) < (n:Int):=by omega
      obtain ⟨b1,off1,⟨rfl,hb1⟩,hc1⟩:=H1.out.at_ HS.out hlt'
      obtain ⟨b2,off2,⟨rfl,hb2⟩,hc2⟩:=H2.out.at_ HS'.out hlt2
      have hst:=Lib.hid (take_same hlt' hlt2 H.out)
      have hno:=Lib.hid (ne_at hlt' hlt2)
      generalize tc[k]=x at *
      generalize uc[k]=y at *
      have X1r:=Lib.hid (box_next X1.out hb.out)
      have X2r:=Lib.hid (box_next X2.out hb.out)
      have HC1:=Lib.hid hc1
      have HC2:=Lib.hid hc2
      have hzd:=D0.size
      have hzr:=hb.out.size
      have DR:=Lib.hid (D0.trans (hb.out.mono hzd))
      clear hc1 hc2 H u0 u1 u2
      by_cases e3:x=y
      ·subst e3
       have s3:=fun w=> cneq_no x w
       go_wp2_with fail
       refine wp_region_sched [(0,true),(1,true),(2,true),(3,true),(4,true),(5,true),(6,true),(7,true),(8,true),(9,true),(10,true)] (by kernel_rfl) (by kernel_rfl) (fun _ _ d _ _ h=> by cases d <;> exact h) ?_
       refine swith (fun W hW=> (cells3 (box_next X1r.out ((Below.refl _ _).drew.trans hW.out)))) (fun q1=> ?_)
       refine swith (fun W hW=> (cells3 (box_next X2r.out ((Below.refl _ _).drew.trans hW.out)))) (fun q2=> ?_)
       refine swith (fun W hW=> (HC1.out W (fun b hB=> (bthen DR.out ((Below.refl _ _).drew.trans hW.out)).block b (HS.out b hB)))) (fun q3=> ?_)
       refine swith (fun W hW=> (HC2.out W (fun b hB=> (bthen DR.out ((Below.refl _ _).drew.trans hW.out)).block b (HS'.out b hB)))) (fun q4=> ?_)
       repeat (first | (refine srE ?_;simp only [Act.put,sA,sB,sC]) | (refine skE ?_;simp only [Act.put,sA,sB,sC]))
       refine sdone ?_
       go_wp2_with fail
       go_roundw
       case rel=> exact ⟨k+1,by omega,by go_num,Lib.hid (hst.out (by trivial)),Lib.hid hb.out.drew⟩
       case measure=> simp [intOf];omega
      ·have s3:=fun w=> cneq_yes e3 w
       go_wp2_with fail
       refine wp_region_sched [(0,true),(1,true),(2,true),(3,true),(4,true),(5,true),(6,true),(7,true),(8,true),(9,true),(10,true)] (by kernel_rfl) (by kernel_rfl) (fun _ _ d _ _ h=> by cases d <;> exact h) ?_
       refine swith (fun W hW=> (cells3 (box_next X1r.out ((Below.refl _ _).drew.trans hW.out)))) (fun q1=> ?_)
       refine swith (fun W hW=> (cells3 (box_next X2r.out ((Below.refl _ _).drew.trans hW.out)))) (fun q2=> ?_)
       refine swith (fun W hW=> (HC1.out W (fun b hB=> (bthen DR.out ((Below.refl _ _).drew.trans hW.out)).block b (HS.out b hB)))) (fun q3=> ?_)
       refine swith (fun W hW=> (HC2.out W (fun b hB=> (bthen DR.out ((Below.refl _ _).drew.trans hW.out)).block b (HS'.out b hB)))) (fun q4=> ?_)
       repeat (first | (refine srE ?_;simp only [Act.put,sA,sB,sC]) | (refine skE ?_;simp only [Act.put,sA,sB,sC]))
       refine sdone ?_
       go_wp2_with fail
       go_ret
       refine ⟨⟨false,rfl,?_⟩,DR.out.drew⟩
       have:=hno.out e3
       simp [this]
     ·obtain rfl:k=n:=by omega
      have hall:tc=uc:=by
       have:=H.out
       rwa [List.take_of_length_le (by rw [HN.out];exact Nat.le_refl _),List.take_of_length_le (by rw [HN2.out];exact Nat.le_refl _)]at this
      go_wp2_with fail
      go_ret
      exact ⟨⟨true,rfl,by simp [hall]⟩,D0.trans (hb.out.mono D0.size)⟩
   ·have d2:((tc.length:Int) !=(uc.length:Int))=true:=by simp;omega
    have hne:tc≠uc:=fun e=> e2 (by rw [e])
    have HNE:=Lib.hid hne
    clear hne
    go_enter Tryz.func24,Tryz.ntmps24
    go_wp2_with fail
    go_ret
    exact ⟨⟨false,rfl,by simp [HNE.out]⟩,D0⟩
  ·have d1:(tr !=ur)=true:=by simpa using e1
   go_enter Tryz.func24,Tryz.ntmps24
   go_wp2_with fail
   go_ret
   exact ⟨⟨false,rfl,by simp [e1]⟩,D0⟩
 ·have s1:=fun w=> sneq_yes e0 w
  go_enter Tryz.func24,Tryz.ntmps24
  go_wp2_with fail
  go_ret
  exact ⟨⟨false,rfl,by simp [e0]⟩,D0⟩
end Go.Proofs.YtnbmpfdffoidaaaGreatDoor.Y
