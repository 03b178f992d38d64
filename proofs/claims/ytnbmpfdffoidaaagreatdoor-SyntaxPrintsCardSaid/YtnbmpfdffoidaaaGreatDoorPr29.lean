/- Texts of the proof, joined: LvBlk, LvAr, LvPrc, LvWk. -/
import Derived.Test.YtnbmpfdffoidaaaGreatDoorPr11
import Derived.Test.YtnbmpfdffoidaaaGreatDoorPr12
import Derived.Test.YtnbmpfdffoidaaaGreatDoorPr17
import Derived.Test.YtnbmpfdffoidaaaGreatDoorPr20
import Derived.Test.YtnbmpfdffoidaaaGreatDoorPr28
set_option linter.unusedVariables false
set_option linter.unusedSimpArgs false
set_option maxHeartbeats 8000000
set_option maxRecDepth 100000
namespace Go.Proofs.YtnbmpfdffoidaaaGreatDoor.Y
open Go.RowKit O V S X
def GZ (lo b1:Nat)(x:Sts)(w':World):Prop:= ∃A k c,w'.heap[b1]? =some (.cells #[.slice A k c] 39 (0,0))∧RowS w' lo A k c x
def zS:List Value:=[nv 0,sv [],sv [],sv [],nv 0,.slice none 0 0,.slice none 0 0,.slice none 0 0,nv 0,nv 0,nv 0]
theorem zblk1 (f g d b0 b1:Nat)(l r1 r:List Tok)(y x:Ex)(tv v v2:Val)(w:World)(h:Pz w g d ((1,w_emit,tv)::l))(hq:QO l y r1)(hl:QL f 0 y r1 x ((4,[59],v)::(4,[125],v2)::r))(h0:w.heap[b0]? =some (.cells #[.pointer (some ⟨g,0,none⟩)] 51 (0,0)))(h1:w.heap[b1]? =some (.cells #[.slice none 0 0] 39 (0,0)))(hln:r.length < l.length)(hg0':g < b0)(hb01':b0 < b1):
  Calls Tryz.prog 140 #[.pointer (some ⟨b0,0,none⟩),.pointer (some ⟨b1,0,none⟩)] w (Zut [g,b1] g d w ((4,[125],v2)::r) fun w' v=> v= .tuple #[]∧GZ w.heap.size b1 (.cons (.emit x) .nil) w'):=by
 have HS:=Lib.hid h
 have HQ:=Lib.hid hq
 have HL:=Lib.hid hl
 have H0:=Lib.hid h0
 have H1:=Lib.hid h1
 have hb0:b0 < w.heap.size:=(Array.getElem?_eq_some_iff.1 h0).1
 have hb1:b1 < w.heap.size:=(Array.getElem?_eq_some_iff.1 h1).1
 clear h hq hl h0 h1
 go_enter Tryz.func140,Tryz.ntmps140
 go_wp2_with fail
 go_loopw [12] (fun _ wr=> (wr=w)∨(Hid (GZ w.heap.size b1 (.cons (.emit x) .nil) wr)∧Hid (Pz wr g d ((4,[125],v2)::r))∧Hid (Mod [g,b1] w wr))) (fun _ wr=> lenZ wr g)
 case atStart=> exact .inl rfl
 case round=>
  rcases hrel with hwr | ⟨HG,HP,HM⟩
  ·obtain rfl:=hwr.symm
   have q0:w.cell? ⟨b0,0,none⟩=some (.pointer (some ⟨g,0,none⟩)):=by rw [Lib.cell_of_heap H0.out];rfl
   have q1:w.cell? ⟨b1,0,none⟩=some (.slice none 0 0):=by rw [Lib.cell_of_heap H1.out];rfl
   obtain ⟨PA,pn,pc,pa,pb,pe,hp⟩:=HS.out
   have hpl:=hp.row.len
   have px0:=hp.cells.1.1
   have hpn:0 < pn:=by simp at hpl;omega
   have dp:decide ((pn:Int) > 0)=true:=by simp;omega
   clear hp hpl
   go_wp2_with fail
   refine (zis g d _ [125] _ HS.out).mono ?_;rintro e w2 ⟨rfl,hw2⟩
   obtain rfl:=hw2.symm
   rw [show isT ((1,w_emit,tv)::l) [125]=false from rfl]
   go_wp2_with fail
   refine (zroom g 0 24 _ (by omega) (by omega)).mono ?_;rintro e w3 ⟨rfl,hw3⟩
   obtain rfl:=hw3.symm
   go_upto_region 2 with fail
   obtain ⟨wd,hwd⟩: ∃W,w.drew=W:=⟨_,rfl⟩
   have MD:Mod [g] w wd:=by rw [← hwd];exact (Mod.refl _ _).drew
   have PD:Pz wd g d ((1,w_emit,tv)::l):=by rw [← hwd];exact HS.out.next (Below.refl _ _).drew
   have hzd:wd.heap.size=w.heap.size:=by rw [← hwd];rfl
   refine wp_region_Z [7,8] [b0,b1] (.read 0 (.read 1 (.pure 3 (.two 2 4 (.call 4 (.call 5 (.pure 6 (.swap 7 8 .done)))) (.call 2 (.call 5 (.pure 6 (.swap 7 8 .done)))))))) (by kernel_rfl) (by kernel_rfl) (fun _ _ d _ _ h=> by cases d <;> exact h) ?_
   rw [hwd]
   clear hwd
   refine zwith (fun W hW=> And.intro (show W.cell? ⟨b0,0,none⟩=some (.pointer (some ⟨g,0,none⟩)) from by rw [Lib.cell_of_heap ((hW b0 (by simp)).trans (MD.box H0.out (by simp;omega)))];rfl) (show W.cell? ⟨b1,0,none⟩=some (.slice none 0 0) from by rw [Lib.cell_of_heap ((hW b1 (by simp)).trans (MD.box H1.out (by simp;omega)))];rfl)) (fun qx=> ?_)
   repeat (refine zrE ?_;simp only [Act.put,sA,sB,sC])
   repeat (refine zpE ?_;simp only [Act.put,sA,sB,sC])
   clear qx
   refine ztwo rfl rfl rfl rfl (fun K hK=> ?_) (fun K hK=> ?_)
   ·go_simp
    refine (zstmt f g d l r1 _ y x tv v wd PD HQ.out HL.out).mono ?_;rintro e wb ⟨m,p5,v5,rfl,vs,rfl,hT⟩
    obtain ⟨A5,B5,E5,n5,c5,m5,d5,k5,f5,pp5,q5,z5,rfl⟩:=hT.form
    have hv:Value.agg (stV (.emit x) (.slice A5 n5 c5) (.slice B5 m5 d5) (.slice E5 k5 f5) pp5 q5 z5).toArray= .agg #[nv (stK (.emit x)),sv (stN (.emit x)),sv (stT (.emit x)),sv (stC (.emit x)),nv (stI (.emit x)),.slice A5 n5 c5,.slice B5 m5 d5,.slice E5 k5 f5,nv pp5,nv q5,nv z5]:=rfl
    rw [hv]
    have hk9:KB [b0,b1] wd wb:=fun b hb=> m.block b (by simp at hb;omega) (by simp at hb⊢;omega)
    clear hv
    go_wp2_with fail
    refine hK.out _ _ hk9 ?_
    clear hk9
    clear hK K
    try simp only [Act.put,sA,sB,sC]
    refine zcall rfl rfl (fun K hK=> ?_)
    have hs5:=m.size
    go_simp
    refine hK.out _ _ (fun b hb=> Below.heap_alloc _ _ _ (by simp at hb;omega)) ?_
    clear hK K
    try simp only [Act.put,sA,sB,sC]
    obtain ⟨V,hV⟩: ∃V,wb.alloc (.cells zS.toArray 44)=V:=⟨_,rfl⟩
    have ZR:V.heap[wb.heap.size]? =some (.cells zS.toArray 44 (0,0)):=by rw [← hV];exact alloc_at rfl
    have MZ:Mod [g] w V:=by rw [← hV];exact (MD.then m).alloc _
    have TT:TreeS V w.heap.size (.emit x) (stV (.emit x) (.slice A5 n5 c5) (.slice B5 m5 d5) (.slice E5 k5 f5) pp5 q5 z5):=by rw [← hV];exact (hT.more (by omega)).mod (bs:=[]) ((Mod.refl _ _).alloc _) (fun _ h=> by cases h)
    have PT:Pz V g d ((4,[125],v2)::r):=by rw [← hV];exact p5.alloc _
    first | rw [hV] | (unfold zS at hV;first | rw [hV] | (simp only [nv,sv]at hV;rw [hV]))
    clear hV m p5 hT
    have hzw:=MZ.size
    have BX7:=MZ.box H1.out (by simp;omega)
    refine zcall rfl rfl (fun K hK=> ?_)
    refine wapp4 (.tmp 17) (.tmp 21) smE rfl w.heap.size [] rfl (World.ownsRow_nil _ _ _ _) rfl zS ((Row.of_block (S:=fun b=> b=wb.heap.size) (n:=1) (c:=1) (xs:=zS) ZR rfl rfl (by omega) (by omega)).rd (B:=wb.heap.size+1) (fun b hb=> by omega)) (by simp [Value.oneCell',zS]) (by unfold maxLen;omega) (by omega) (by omega) rfl ?_
    intro A7 c7 w7 o7 g7 h7
    obtain ⟨g9,rfl,hg9a,hg9b⟩:=own_form o7 (by omega)
    have m7:Mod [] V w7:=(Mod.refl _ _).grown g7 (fun j hj=> by simp [Value.ownBlock]at hj)
    have hg9c:V.heap.size≤g9:=by
     rcases h7 with h | h
     ·simp [Value.ownBlock]at h
     ·simp [Value.ownBlock]at h;omega
    refine hK.out _ _ (fun b hb=> m7.block b (by simp at hb;omega) (by simp)) ?_
    clear hK K
    try simp only [Act.put,sA,sB,sC]
    repeat (refine zpE ?_;simp only [Act.put,sA,sB,sC])
    have X7:=m7.box BX7 (by simp)
    have x17:w7.cell? ⟨b1,0,none⟩=some (.slice none 0 0):=by rw [Lib.cell_of_heap X7];rfl
    have xf17:w7.frozen? ⟨b1,0,none⟩=false:=Lib.frozen_of_heap X7 0
    have ms:Mod [b1] w7 (w7.setCell ⟨b1,0,none⟩ (.slice (some ⟨g9,0,none⟩) 1 c7)):=(Mod.refl _ _).set (.inl (by simp)) _
    have os:=own_mod o7 ms (fun j hj=> by simp [Value.ownBlock]at hj;simp;omega)
    have X8:(put11 w7 g9 0 (nv (stK (.emit x))) (sv (stN (.emit x))) (sv (stT (.emit x))) (sv (stC (.emit x))) (nv (stI (.emit x))) (.slice A5 n5 c5) (.slice B5 m5 d5) (.slice E5 k5 f5) (nv pp5) (nv q5) (nv z5)).heap[b1]? =some (.cells #[.slice none 0 0] 39 (0,0)):=put11_mod.box X7 (by simp;omega)
    have x18:(put11 w7 g9 0 (nv (stK (.emit x))) (sv (stN (.emit x))) (sv (stT (.emit x))) (sv (stC (.emit x))) (nv (stI (.emit x))) (.slice A5 n5 c5) (.slice B5 m5 d5) (.slice E5 k5 f5) (nv pp5) (nv q5) (nv z5)).cell? ⟨b1,0,none⟩=some (.slice none 0 0):=by rw [Lib.cell_of_heap X8];rfl
    have xf18:(put11 w7 g9 0 (nv (stK (.emit x))) (sv (stN (.emit x))) (sv (stT (.emit x))) (sv (stC (.emit x))) (nv (stI (.emit x))) (.slice A5 n5 c5) (.slice B5 m5 d5) (.slice E5 k5 f5) (nv pp5) (nv q5) (nv z5)).frozen? ⟨b1,0,none⟩=false:=Lib.frozen_of_heap X8 0
    have oo:=o7
    obtain ⟨⟨⟨⟨y0,y1⟩,y2,y3⟩,⟨y4,y5⟩,y6,y7⟩,⟨y8,y9⟩,y10⟩:=own_cells11 o7 (k:=0) rfl
    obtain ⟨⟨⟨⟨s0,s1⟩,s2,s3⟩,⟨s4,s5⟩,s6,s7⟩,⟨s8,s9⟩,s10⟩:=own_frozen11 o7 0
    obtain ⟨⟨⟨⟨t0,t1⟩,t2,t3⟩,⟨t4,t5⟩,t6,t7⟩,⟨t8,t9⟩,t10⟩:=own_cells11 os (k:=0) rfl
    obtain ⟨⟨⟨⟨u0,u1⟩,u2,u3⟩,⟨u4,u5⟩,u6,u7⟩,⟨u8,u9⟩,u10⟩:=own_frozen11 os 0
    have hb9:b1≠g9:=by omega
    refine zswap (put11 w7 g9 0 (nv (stK (.emit x))) (sv (stN (.emit x))) (sv (stT (.emit x))) (sv (stC (.emit x))) (nv (stI (.emit x))) (.slice A5 n5 c5) (.slice B5 m5 d5) (.slice E5 k5 f5) (nv pp5) (nv q5) (nv z5)) (w7.setCell ⟨b1,0,none⟩ (.slice (some ⟨g9,0,none⟩) 1 c7)) ((put11 w7 g9 0 (nv (stK (.emit x))) (sv (stN (.emit x))) (sv (stT (.emit x))) (sv (stC (.emit x))) (nv (stI (.emit x))) (.slice A5 n5 c5) (.slice B5 m5 d5) (.slice E5 k5 f5) (nv pp5) (nv q5) (nv z5)).setCell ⟨b1,0,none⟩ (.slice (some ⟨g9,0,none⟩) 1 c7)) rfl rfl rfl rfl rfl rfl (by go_simp;unfold put11;rfl) (by go_simp) (by go_simp) (by rw [← put11_comm hb9];go_simp;unfold put11;rfl) (zdone ?_)
    clear y0 y1 y2 y3 y4 y5 y6 y7 y8 y9 y10 s0 s1 s2 s3 s4 s5 s6 s7 s8 s9 s10 t0 t1 t2 t3 t4 t5 t6 t7 t8 t9 t10 u0 u1 u2 u3 u4 u5 u6 u7 u8 u9 u10 x17 xf17 x18 xf18
    obtain ⟨wF,hwF⟩: ∃W,((put11 w7 g9 0 (nv (stK (.emit x))) (sv (stN (.emit x))) (sv (stT (.emit x))) (sv (stC (.emit x))) (nv (stI (.emit x))) (.slice A5 n5 c5) (.slice B5 m5 d5) (.slice E5 k5 f5) (nv pp5) (nv q5) (nv z5)).setCell ⟨b1,0,none⟩ (.slice (some ⟨g9,0,none⟩) 1 c7))=W:=⟨_,rfl⟩
    have mF:Mod [g9,b1] w7 wF:=by rw [← hwF];exact (put11_mod.more (fun x hx=> .inl (by simp at hx;simp [hx]))).set (.inl (by simp)) _
    have XF:wF.heap[b1]? =some (.cells #[(.slice (some ⟨g9,0,none⟩) 1 c7)] 39 (0,0)):=by rw [← hwF];exact heap_set' X8 _ 0 rfl
    have oF:wF.ownsRow w.heap.size 44 11 (.slice (some ⟨g9,0,none⟩) 1 c7) 1 ([] ++stV (.emit x) (.slice A5 n5 c5) (.slice B5 m5 d5) (.slice E5 k5 f5) pp5 q5 z5):=by
     rw [← hwF]
     exact own_mod (own_put11 o7 (k:=0) rfl _ _ _ _ _ _ _ _ _ _ _) (bs:=[b1]) ((Mod.refl _ _).set (.inl (by simp)) _) (fun j hj=> by simp [Value.ownBlock]at hj;simp;omega)
    rw [hwF]
    have mV:Mod [g9,b1] V wF:=(m7.more (fun x hx=> by cases hx)).then mF
    have GF:Hid (GZ w.heap.size b1 (.cons (.emit x) .nil) wF):=Lib.hid (by
     obtain ⟨S,q1,q2⟩:=TT
     have T8:=StR.keep (fun b hb=> mV.block b (q2 b hb).2 (by have:=q2 b hb;simp;omega)) _ _ q1
     refine ⟨_,_,_,XF,_,fun b=> S b∨(Value.slice (some ⟨g9,0,none⟩) 1 c7).ownBlock=some b,Row.of_own oF (fun _ h=> .inr h),(StsR_reps _ _).2 (.one (StR.mono (fun _ h=> .inl h) _ _ T8)),?_⟩
     rintro b (hb | hb)
     ·exact ⟨(q2 b hb).1,Nat.lt_of_lt_of_le (q2 b hb).2 mV.size⟩
     ·exact oF.lt b hb)
    have PF:Hid (Pz wF g d ((4,[125],v2)::r)):=Lib.hid (PT.mod mV (fun x hx=> by simp at hx;omega))
    have MF:Hid (Mod [g,b1] w wF):=Lib.hid ((MZ.more (fun x hx=> .inl (by simp at hx;simp [hx]))).trans mV (fun x hx=> (List.mem_cons.1 hx).elim (fun e=> .inr (by omega)) (fun e=> .inl (by simp at e;simp [e]))))
    clear hwF mF XF oF mV X8 X7 BX7 m7 g7 h7 o7 oo os ms MZ ZR TT PT MD PD
    go_wp2_with fail
    go_roundw
    case rel=> exact .inr ⟨GF,PF,MF⟩
    case measure=> rw [PF.out.len,HS.out.len];simp;omega
   ·go_simp
    refine hK.out _ _ (fun b hb=> Below.heap_alloc _ _ _ (by simp at hb;omega)) ?_
    clear hK K
    try simp only [Act.put,sA,sB,sC]
    refine zcall rfl rfl (fun K hK=> ?_)
    have hza:(wd.alloc (.cells zS.toArray 44)).heap.size=wd.heap.size+1:=by simp
    have mz:Mod [g] wd (wd.alloc (.cells zS.toArray 44)):=(Mod.refl _ _).alloc _
    go_simp
    refine (zstmt f g d l r1 _ y x tv v (wd.alloc (.cells zS.toArray 44)) (PD.alloc _) HQ.out HL.out).mono ?_;rintro e wb ⟨m,p5,v5,rfl,vs,rfl,hT⟩
    obtain ⟨A5,B5,E5,n5,c5,m5,d5,k5,f5,pp5,q5,z5,rfl⟩:=hT.form
    have hv:Value.agg (stV (.emit x) (.slice A5 n5 c5) (.slice B5 m5 d5) (.slice E5 k5 f5) pp5 q5 z5).toArray= .agg #[nv (stK (.emit x)),sv (stN (.emit x)),sv (stT (.emit x)),sv (stC (.emit x)),nv (stI (.emit x)),.slice A5 n5 c5,.slice B5 m5 d5,.slice E5 k5 f5,nv pp5,nv q5,nv z5]:=rfl
    rw [hv]
    have hk9:KB [b0,b1] (wd.alloc (.cells zS.toArray 44)) wb:=fun b hb=> m.block b (by simp at hb;omega) (by simp at hb⊢;omega)
    clear hv
    go_wp2_with fail
    refine hK.out _ _ hk9 ?_
    clear hk9
    clear hK K
    try simp only [Act.put,sA,sB,sC]
    have hs5:=m.size
    obtain ⟨V,hV⟩: ∃V,wb=V:=⟨_,rfl⟩
    have ZR:V.heap[w.heap.size]? =some (.cells zS.toArray 44 (0,0)):=by rw [← hV];exact m.box (alloc_at hzd.symm) (by simp;omega)
    have MZ:Mod [g] w V:=by rw [← hV];exact (MD.then mz).then m
    have TT:TreeS V w.heap.size (.emit x) (stV (.emit x) (.slice A5 n5 c5) (.slice B5 m5 d5) (.slice E5 k5 f5) pp5 q5 z5):=by rw [← hV];exact hT.more (by omega)
    have PT:Pz V g d ((4,[125],v2)::r):=by rw [← hV];exact p5
    first | rw [hV] | (unfold zS at hV;first | rw [hV] | (simp only [nv,sv]at hV;rw [hV]))
    clear hV m p5 hT
    have hzw:=MZ.size
    have BX7:=MZ.box H1.out (by simp;omega)
    refine zcall rfl rfl (fun K hK=> ?_)
    refine wapp4 (.tmp 17) (.tmp 21) smE rfl w.heap.size [] rfl (World.ownsRow_nil _ _ _ _) rfl zS ((Row.of_block (S:=fun b=> b=w.heap.size) (n:=1) (c:=1) (xs:=zS) ZR rfl rfl (by omega) (by omega)).rd (B:=w.heap.size+1) (fun b hb=> by omega)) (by simp [Value.oneCell',zS]) (by unfold maxLen;omega) (by omega) (by omega) rfl ?_
    intro A7 c7 w7 o7 g7 h7
    obtain ⟨g9,rfl,hg9a,hg9b⟩:=own_form o7 (by omega)
    have m7:Mod [] V w7:=(Mod.refl _ _).grown g7 (fun j hj=> by simp [Value.ownBlock]at hj)
    have hg9c:V.heap.size≤g9:=by
     rcases h7 with h | h
     ·simp [Value.ownBlock]at h
     ·simp [Value.ownBlock]at h;omega
    refine hK.out _ _ (fun b hb=> m7.block b (by simp at hb;omega) (by simp)) ?_
    clear hK K
    try simp only [Act.put,sA,sB,sC]
    repeat (refine zpE ?_;simp only [Act.put,sA,sB,sC])
    have X7:=m7.box BX7 (by simp)
    have x17:w7.cell? ⟨b1,0,none⟩=some (.slice none 0 0):=by rw [Lib.cell_of_heap X7];rfl
    have xf17:w7.frozen? ⟨b1,0,none⟩=false:=Lib.frozen_of_heap X7 0
    have ms:Mod [b1] w7 (w7.setCell ⟨b1,0,none⟩ (.slice (some ⟨g9,0,none⟩) 1 c7)):=(Mod.refl _ _).set (.inl (by simp)) _
    have os:=own_mod o7 ms (fun j hj=> by simp [Value.ownBlock]at hj;simp;omega)
    have X8:(put11 w7 g9 0 (nv (stK (.emit x))) (sv (stN (.emit x))) (sv (stT (.emit x))) (sv (stC (.emit x))) (nv (stI (.emit x))) (.slice A5 n5 c5) (.slice B5 m5 d5) (.slice E5 k5 f5) (nv pp5) (nv q5) (nv z5)).heap[b1]? =some (.cells #[.slice none 0 0] 39 (0,0)):=put11_mod.box X7 (by simp;omega)
    have x18:(put11 w7 g9 0 (nv (stK (.emit x))) (sv (stN (.emit x))) (sv (stT (.emit x))) (sv (stC (.emit x))) (nv (stI (.emit x))) (.slice A5 n5 c5) (.slice B5 m5 d5) (.slice E5 k5 f5) (nv pp5) (nv q5) (nv z5)).cell? ⟨b1,0,none⟩=some (.slice none 0 0):=by rw [Lib.cell_of_heap X8];rfl
    have xf18:(put11 w7 g9 0 (nv (stK (.emit x))) (sv (stN (.emit x))) (sv (stT (.emit x))) (sv (stC (.emit x))) (nv (stI (.emit x))) (.slice A5 n5 c5) (.slice B5 m5 d5) (.slice E5 k5 f5) (nv pp5) (nv q5) (nv z5)).frozen? ⟨b1,0,none⟩=false:=Lib.frozen_of_heap X8 0
    have oo:=o7
    obtain ⟨⟨⟨⟨y0,y1⟩,y2,y3⟩,⟨y4,y5⟩,y6,y7⟩,⟨y8,y9⟩,y10⟩:=own_cells11 o7 (k:=0) rfl
    obtain ⟨⟨⟨⟨s0,s1⟩,s2,s3⟩,⟨s4,s5⟩,s6,s7⟩,⟨s8,s9⟩,s10⟩:=own_frozen11 o7 0
    obtain ⟨⟨⟨⟨t0,t1⟩,t2,t3⟩,⟨t4,t5⟩,t6,t7⟩,⟨t8,t9⟩,t10⟩:=own_cells11 os (k:=0) rfl
    obtain ⟨⟨⟨⟨u0,u1⟩,u2,u3⟩,⟨u4,u5⟩,u6,u7⟩,⟨u8,u9⟩,u10⟩:=own_frozen11 os 0
    have hb9:b1≠g9:=by omega
    refine zswap (put11 w7 g9 0 (nv (stK (.emit x))) (sv (stN (.emit x))) (sv (stT (.emit x))) (sv (stC (.emit x))) (nv (stI (.emit x))) (.slice A5 n5 c5) (.slice B5 m5 d5) (.slice E5 k5 f5) (nv pp5) (nv q5) (nv z5)) (w7.setCell ⟨b1,0,none⟩ (.slice (some ⟨g9,0,none⟩) 1 c7)) ((put11 w7 g9 0 (nv (stK (.emit x))) (sv (stN (.emit x))) (sv (stT (.emit x))) (sv (stC (.emit x))) (nv (stI (.emit x))) (.slice A5 n5 c5) (.slice B5 m5 d5) (.slice E5 k5 f5) (nv pp5) (nv q5) (nv z5)).setCell ⟨b1,0,none⟩ (.slice (some ⟨g9,0,none⟩) 1 c7)) rfl rfl rfl rfl rfl rfl (by go_simp;unfold put11;rfl) (by go_simp) (by go_simp) (by rw [← put11_comm hb9];go_simp;unfold put11;rfl) (zdone ?_)
    clear y0 y1 y2 y3 y4 y5 y6 y7 y8 y9 y10 s0 s1 s2 s3 s4 s5 s6 s7 s8 s9 s10 t0 t1 t2 t3 t4 t5 t6 t7 t8 t9 t10 u0 u1 u2 u3 u4 u5 u6 u7 u8 u9 u10 x17 xf17 x18 xf18
    obtain ⟨wF,hwF⟩: ∃W,((put11 w7 g9 0 (nv (stK (.emit x))) (sv (stN (.emit x))) (sv (stT (.emit x))) (sv (stC (.emit x))) (nv (stI (.emit x))) (.slice A5 n5 c5) (.slice B5 m5 d5) (.slice E5 k5 f5) (nv pp5) (nv q5) (nv z5)).setCell ⟨b1,0,none⟩ (.slice (some ⟨g9,0,none⟩) 1 c7))=W:=⟨_,rfl⟩
    have mF:Mod [g9,b1] w7 wF:=by rw [← hwF];exact (put11_mod.more (fun x hx=> .inl (by simp at hx;simp [hx]))).set (.inl (by simp)) _
    have XF:wF.heap[b1]? =some (.cells #[(.slice (some ⟨g9,0,none⟩) 1 c7)] 39 (0,0)):=by rw [← hwF];exact heap_set' X8 _ 0 rfl
    have oF:wF.ownsRow w.heap.size 44 11 (.slice (some ⟨g9,0,none⟩) 1 c7) 1 ([] ++stV (.emit x) (.slice A5 n5 c5) (.slice B5 m5 d5) (.slice E5 k5 f5) pp5 q5 z5):=by
     rw [← hwF]
     exact own_mod (own_put11 o7 (k:=0) rfl _ _ _ _ _ _ _ _ _ _ _) (bs:=[b1]) ((Mod.refl _ _).set (.inl (by simp)) _) (fun j hj=> by simp [Value.ownBlock]at hj;simp;omega)
    rw [hwF]
    have mV:Mod [g9,b1] V wF:=(m7.more (fun x hx=> by cases hx)).then mF
    have GF:Hid (GZ w.heap.size b1 (.cons (.emit x) .nil) wF):=Lib.hid (by
     obtain ⟨S,q1,q2⟩:=TT
     have T8:=StR.keep (fun b hb=> mV.block b (q2 b hb).2 (by have:=q2 b hb;simp;omega)) _ _ q1
     refine ⟨_,_,_,XF,_,fun b=> S b∨(Value.slice (some ⟨g9,0,none⟩) 1 c7).ownBlock=some b,Row.of_own oF (fun _ h=> .inr h),(StsR_reps _ _).2 (.one (StR.mono (fun _ h=> .inl h) _ _ T8)),?_⟩
     rintro b (hb | hb)
     ·exact ⟨(q2 b hb).1,Nat.lt_of_lt_of_le (q2 b hb).2 mV.size⟩
     ·exact oF.lt b hb)
    have PF:Hid (Pz wF g d ((4,[125],v2)::r)):=Lib.hid (PT.mod mV (fun x hx=> by simp at hx;omega))
    have MF:Hid (Mod [g,b1] w wF):=Lib.hid ((MZ.more (fun x hx=> .inl (by simp at hx;simp [hx]))).trans mV (fun x hx=> (List.mem_cons.1 hx).elim (fun e=> .inr (by omega)) (fun e=> .inl (by simp at e;simp [e]))))
    clear hwF mF XF oF mV X8 X7 BX7 m7 g7 h7 o7 oo os ms MZ ZR TT PT MD PD
    go_wp2_with fail
    go_roundw
    case rel=> exact .inr ⟨GF,PF,MF⟩
    case measure=> rw [PF.out.len,HS.out.len];simp;omega
  ·obtain ⟨PA,pn,pc,pa,pb,pe,hp⟩:=HP.out
   have hpl:=hp.row.len
   have px0:=hp.cells.1.1
   have hpn:0 < pn:=by simp at hpl;omega
   have dp:decide ((pn:Int) > 0)=true:=by simp;omega
   have q0:wr.cell? ⟨b0,0,none⟩=some (.pointer (some ⟨g,0,none⟩)):=by rw [Lib.cell_of_heap (HM.out.box H0.out (by simp;omega))];rfl
   clear hp hpl
   go_wp2_with fail
   refine (zis g d _ [125] _ HP.out).mono ?_;rintro e w2 ⟨rfl,rfl⟩
   rw [show isT ((4,[125],v2)::r) [125]=true from rfl]
   go_wp2_with fail
   go_end0
   exact ⟨HM.out,HP.out,_,rfl,rfl,HG.out⟩
end Go.Proofs.YtnbmpfdffoidaaaGreatDoor.Y
namespace Go.Proofs.YtnbmpfdffoidaaaGreatDoor.Y
open Go.RowKit O V S X
def AfterZ (g:Nat)(G:World→Prop)(w':World)(v:Value):Prop:=v= .tuple #[]∧∃W,G W∧Mod [g] W w'
theorem zwithin (g d:Nat)(t:Tok)(l r:List Tok)(F:Nat)(caps:Array Value)(bs:List Nat)(G:World→Prop)(w:World)(h:Pz w g d (t::l))(hd:d < 16)(hg:g ∈ bs)
  (hcall: ∀args w,(callFunc F args).run Tryz.prog w= .ok (.enter F args) w)
  (hc: ∀W,Mod [g] w W→Pz W g (d+1) l→Calls Tryz.prog F caps W (Zut bs g (d+1) W r fun w' v=> v= .tuple #[]∧G w')):
  Calls Tryz.prog 163 #[.pointer (some ⟨g,0,none⟩),.func (.func F) #[] caps] w (Zut bs g d w r (AfterZ g G)):=by
 have HC:=Lib.hid hc
 have HG:=Lib.hid hg
 clear hc hg
 obtain ⟨A,n,c,ea,eb,ec,hp⟩:=h
 have hlen:=hp.row.len
 have hcap:=hp.row.cap
 obtain ⟨⟨x0,x4⟩,xf0,xf4⟩:=hp.cells
 have hlt:=hp.lt
 have hn:1≤n:=by simp at hlen;omega
 have hc1:1≤c:=by omega
 have hcn:=hcap.1
 obtain ⟨b,off,tp,tq,tr,rfl,hb,_⟩:=hp.row.head
 have hP1: ∀A' c' (x:Int),x=((d+1:Nat):Int)→(c≠1→A'=some ⟨b,off+8,none⟩)→c'=c - 1→Hid (Mod [g] w ((w.setCell ⟨g,4,none⟩ (nv x)).setCell ⟨g,0,none⟩ (.slice A' (n - 1) c')))∧Hid (Pz ((w.setCell ⟨g,4,none⟩ (nv x)).setCell ⟨g,0,none⟩ (.slice A' (n - 1) c')) g (d+1) l):=fun A' c' x hx hA hc'=> by
  subst hc' hx
  refine ⟨Lib.hid (((Mod.refl _ _).set (.inl (by simp)) _).set (.inl (by simp)) _),Lib.hid ⟨A',n - 1,c - 1,ea,eb,ec,heap_set (i:=0) (heap_set (i:=4) hp.box (nv (d+1:Nat))) (.slice A' (n - 1) (c - 1)),(hp.row.tail hA).keep fun k hk=> ?_⟩⟩
  rw [Below.heap_setCell _ _ _ _ (by simp only;omega),Below.heap_setCell _ _ _ _ (by simp only;omega)]
 have HP1:=Lib.hid hP1
 have d0:((d:Int)==16)=false:=by simp;omega
 clear hp hP1
 go_enter Tryz.func163,Tryz.ntmps163
 go_wp2_with fail
 ·have hq:=HP1.out (some ⟨b,off,none⟩) 0 ((d:Int)+1) (by omega) (fun h=> absurd (by assumption) h) (by omega)
  obtain ⟨M1,P1⟩:=hq
  refine (HC.out _ M1.out P1.out).mono ?_;rintro e w2 ⟨m2,⟨A2,n2,c2,ea2,eb2,ec2,p2⟩,v,rfl,rfl,hG⟩
  have M2:=Lib.hid m2
  obtain ⟨⟨z0,z4⟩,zf0,zf4⟩:=p2.cells
  have P2:=Lib.hid p2
  have HGG:=Lib.hid hG
  clear m2 p2 hG
  go_wp2_with fail
  go_end0
  refine ⟨((M1.out.more (fun x hx=> .inl (by simp at hx;subst hx;exact HG.out))).then M2.out).set (.inl HG.out) _,⟨A2,n2,c2,ea2,eb2,ec2,heap_set (i:=4) P2.out.box (nv (d:Nat)),P2.out.row.keep fun k hk=> ?_⟩,_,rfl,rfl,w2,HGG.out,(Mod.refl _ _).set (.inl (by simp)) _⟩
  rw [Below.heap_setCell _ _ _ _ (by simp only;omega)]
 ·have hq:=HP1.out (some ⟨b,off+8,none⟩) (c - 1) ((d:Int)+1) (by omega) (fun _=> rfl) rfl
  obtain ⟨M1,P1⟩:=hq
  refine (HC.out _ M1.out P1.out).mono ?_;rintro e w2 ⟨m2,⟨A2,n2,c2,ea2,eb2,ec2,p2⟩,v,rfl,rfl,hG⟩
  have M2:=Lib.hid m2
  obtain ⟨⟨z0,z4⟩,zf0,zf4⟩:=p2.cells
  have P2:=Lib.hid p2
  have HGG:=Lib.hid hG
  clear m2 p2 hG
  go_wp2_with fail
  go_end0
  refine ⟨((M1.out.more (fun x hx=> .inl (by simp at hx;subst hx;exact HG.out))).then M2.out).set (.inl HG.out) _,⟨A2,n2,c2,ea2,eb2,ec2,heap_set (i:=4) P2.out.box (nv (d:Nat)),P2.out.row.keep fun k hk=> ?_⟩,_,rfl,rfl,w2,HGG.out,(Mod.refl _ _).set (.inl (by simp)) _⟩
  rw [Below.heap_setCell _ _ _ _ (by simp only;omega)]
theorem zar1 (g d:Nat)(tt:List UInt8)(k:Int)(v:Val)(r:List Tok)(F:Nat)(caps:Array Value)(bs:List Nat)(G:World→Prop)(b0 b1 b2:Nat)(w:World)(hg:g ∈ bs)(hk:isT ((k,tt,v)::r) tt=true)
  (hcall: ∀args w,(callFunc F args).run Tryz.prog w= .ok (.enter F args) w)
  (h0:w.heap[b0]? =some (.cells #[.func (.func F) #[] caps] 1 (0,0))) (h1:w.heap[b1]? =some (.cells #[.pointer (some ⟨g,0,none⟩)] 51 (0,0))) (h2:w.heap[b2]? =some (.cells #[sv tt] 9 (0,0)))
  (hn1:b1 ∉ bs) (hn2:b2 ∉ bs)
  (hc:Calls Tryz.prog F caps w (Zut bs g d w ((k,tt,v)::r) fun w' v=> v= .tuple #[]∧G w')):
  Calls Tryz.prog 164 #[.pointer (some ⟨b0,0,none⟩),.pointer (some ⟨b1,0,none⟩),.pointer (some ⟨b2,0,none⟩)] w (Zut bs g d w r (AfterZ g G)):=by
 have HC:=Lib.hid hc
 have HG:=Lib.hid hg
 have H1:=Lib.hid h1
 have H2:=Lib.hid h2
 have N1:=Lib.hid hn1
 have N2:=Lib.hid hn2
 have HK:=Lib.hid hk
 have x0:w.cell? ⟨b0,0,none⟩=some (.func (.func F) #[] caps):=by rw [Lib.cell_of_heap h0];rfl
 clear hc hg h0 h1 h2 hn1 hn2 hk
 go_enter Tryz.func164,Tryz.ntmps164
 go_wp2_with fail
 refine HC.out.mono ?_;rintro e w1 ⟨m1,p1,v1,rfl,rfl,hG⟩
 have M1:=Lib.hid m1
 have P1:=Lib.hid p1
 have HGG:=Lib.hid hG
 have x1:w1.cell? ⟨b1,0,none⟩=some (.pointer (some ⟨g,0,none⟩)):=by rw [Lib.cell_of_heap (M1.out.box H1.out N1.out)];rfl
 have x2:w1.cell? ⟨b2,0,none⟩=some (sv tt):=by rw [Lib.cell_of_heap (M1.out.box H2.out N2.out)];rfl
 have hlt:=p1.lt
 clear m1 p1 hG
 go_wp2_with fail
 refine (zwant g d _ tt w1.heap.size _ (P1.out.alloc _) hlt (alloc_at rfl) HK.out).mono ?_;rintro e w2 ⟨m2,p2,v2,rfl,rfl⟩
 have M2:Hid (Mod [g] w1 w2):=Lib.hid (((Mod.refl _ _).alloc _).then m2)
 have P2:=Lib.hid p2
 clear m2 p2
 go_wp2_with fail
 go_end0
 exact ⟨M1.out.then (M2.out.more (fun x hx=> .inl (by simp at hx;subst hx;exact HG.out))),P2.out,_,rfl,rfl,w1,HGG.out,M2.out⟩
theorem zaround (g d:Nat)(fr tt:List UInt8)(k k2:Int)(v v2:Val)(l r:List Tok)(F:Nat)(caps:Array Value)(bs:List Nat)(G:World→Prop)(w:World)(h:Pz w g d ((k,fr,v)::l))(hd:d < 16)(hg:g ∈ bs)(hbs: ∀x ∈ bs,x < w.heap.size)(hk:isT ((k,fr,v)::l) fr=true)(hk2:isT ((k2,tt,v2)::r) tt=true)
  (hcall: ∀args w,(callFunc F args).run Tryz.prog w= .ok (.enter F args) w)
  (hc: ∀W,Mod [g] w W→Pz W g (d+1) l→Calls Tryz.prog F caps W (Zut bs g (d+1) W ((k2,tt,v2)::r) fun w' v=> v= .tuple #[]∧G w')):
  Calls Tryz.prog 139 #[.pointer (some ⟨g,0,none⟩),sv fr,sv tt,.func (.func F) #[] caps] w (Zut bs g d w r (AfterZ g G)):=by
 have HS:=Lib.hid h
 have HC:=Lib.hid hc
 have HG:=Lib.hid hg
 have HB:=Lib.hid hbs
 have HK:=Lib.hid hk
 have HK2:=Lib.hid hk2
 have hlt:=h.lt
 clear hc hg h hbs hk hk2
 have hmf: ∀(fn:Fn) (first cap:Array Value) (w:World),(Instr.makeFunc fn first cap).run Tryz.prog w= .ok (.func fn first cap) w:=fun _ _ _ _=> rfl
 have hc1:=Tryz.call164
 go_enter Tryz.func139,Tryz.ntmps139
 go_wp2_with fail
 have B3:Below w.heap.size w (((w.alloc (Obj.cells #[Value.pointer (some ⟨g,0,none⟩)] 51)).alloc (Obj.cells #[sv tt] 9)).alloc (Obj.cells #[Value.func (Fn.func F) #[] caps] 1)):=by repeat (first | exact Below.refl _ _ | refine Below.alloc ?_ (by simp <;> omega) _)
 have Y0:Hid ((((w.alloc (Obj.cells #[Value.pointer (some ⟨g,0,none⟩)] 51)).alloc (Obj.cells #[sv tt] 9)).alloc (Obj.cells #[Value.func (Fn.func F) #[] caps] 1)).heap[w.heap.size]? =some (.cells #[.pointer (some ⟨g,0,none⟩)] 51 (0,0))):=Lib.hid (alloc_old' (alloc_old' (alloc_at rfl)))
 have Y1:Hid ((((w.alloc (Obj.cells #[Value.pointer (some ⟨g,0,none⟩)] 51)).alloc (Obj.cells #[sv tt] 9)).alloc (Obj.cells #[Value.func (Fn.func F) #[] caps] 1)).heap[w.heap.size+1]? =some (.cells #[sv tt] 9 (0,0))):=Lib.hid (alloc_old' (alloc_at (by simp)))
 have Y2:Hid ((((w.alloc (Obj.cells #[Value.pointer (some ⟨g,0,none⟩)] 51)).alloc (Obj.cells #[sv tt] 9)).alloc (Obj.cells #[Value.func (Fn.func F) #[] caps] 1)).heap[w.heap.size+1+1]? =some (.cells #[.func (.func F) #[] caps] 1 (0,0))):=Lib.hid (alloc_at (by simp))
 have HS3:=Lib.hid (HS.out.next B3)
 have HB3:=Lib.hid B3
 clear B3
 generalize (((w.alloc (Obj.cells #[Value.pointer (some ⟨g,0,none⟩)] 51)).alloc (Obj.cells #[sv tt] 9)).alloc (Obj.cells #[Value.func (Fn.func F) #[] caps] 1))=w3 at *
 have z0:w3.cell? ⟨w.heap.size,0,none⟩=some (.pointer (some ⟨g,0,none⟩)):=by rw [Lib.cell_of_heap Y0.out];rfl
 have z1:w3.cell? ⟨w.heap.size+1,0,none⟩=some (sv tt):=by rw [Lib.cell_of_heap Y1.out];rfl
 have z2:w3.cell? ⟨w.heap.size+1+1,0,none⟩=some (.func (.func F) #[] caps):=by rw [Lib.cell_of_heap Y2.out];rfl
 refine (zis g d _ fr _ HS3.out).mono ?_;rintro e w4 ⟨rfl,rfl⟩
 rw [HK.out]
 go_wp2_with fail
 refine (zwithin g d _ l r 164 #[.pointer (some ⟨w.heap.size+1+1,0,none⟩),.pointer (some ⟨w.heap.size,0,none⟩),.pointer (some ⟨w.heap.size+1,0,none⟩)] bs (fun w'=> ∃W,G W∧Mod [g] W w') w4 HS3.out hd HG.out hc1 (fun W mW pW=> ?_)).mono ?_
 ·have mW2:Mod [g] w W:=(Mod.of_below HB3.out).then mW
  exact zar1 g (d+1) tt k2 v2 r F caps bs G (w.heap.size+1+1) w.heap.size (w.heap.size+1) W HG.out HK2.out hcall (mW.box Y2.out (by simp;omega)) (mW.box Y0.out (by simp;omega)) (mW.box Y1.out (by simp;omega)) (fun hx=> by have:=HB.out _ hx;omega) (fun hx=> by have:=HB.out _ hx;omega) (HC.out W mW2 pW)
 rintro e w5 ⟨m5,p5,v5,rfl,rfl,W1,⟨W2,hG,m2⟩,m3⟩
 have M5:Hid (Mod bs w w5):=Lib.hid ((Mod.of_below HB3.out).then m5)
 have P5:=Lib.hid p5
 have HGG:=Lib.hid hG
 have M3:=Lib.hid (m2.then m3)
 clear p5 hG m2 m3 m5
 go_wp2_with fail
 go_end0
 exact ⟨M5.out,P5.out,_,rfl,rfl,W2,HGG.out,M3.out⟩
end Go.Proofs.YtnbmpfdffoidaaaGreatDoor.Y
namespace Go.Proofs.YtnbmpfdffoidaaaGreatDoor.Y
open Go.RowKit O V S X
theorem zblock (f g d:Nat)(l r1 r:List Tok)(y x:Ex)(t0 tv v v2:Val)(w:World)(h:Pz w g d ((4,[123],t0)::(1,w_emit,tv)::l))(hq:QO l y r1)(hl:QL f 0 y r1 x ((4,[59],v)::(4,[125],v2)::r))(hln:r.length < l.length)(hd:d < 16):
  Calls Tryz.prog 102 #[.pointer (some ⟨g,0,none⟩)] w (Zut [g] g d w r fun w' v=> ∃A k c,v= .slice A k c∧RowS w' w.heap.size A k c (.cons (.emit x) .nil)):=by
 have HS:=Lib.hid h
 have hlt:=h.lt
 have hmf: ∀(fn:Fn) (first cap:Array Value) (w:World),(Instr.makeFunc fn first cap).run Tryz.prog w= .ok (.func fn first cap) w:=fun _ _ _ _=> rfl
 have HA:Hid (Below w.heap.size w ((w.alloc (.cells #[.pointer (some ⟨g,0,none⟩)] 51)).alloc (.cells #[.slice none 0 0] 39))):=Lib.hid (by repeat (first | exact Below.refl _ _ | refine Below.alloc ?_ (by simp <;> omega) _))
 have HB0:Hid (((w.alloc (.cells #[.pointer (some ⟨g,0,none⟩)] 51)).alloc (.cells #[.slice none 0 0] 39)).heap[w.heap.size]? =some (.cells #[.pointer (some ⟨g,0,none⟩)] 51 (0,0))):=Lib.hid (alloc_old' (alloc_at rfl))
 have HB1:Hid (((w.alloc (.cells #[.pointer (some ⟨g,0,none⟩)] 51)).alloc (.cells #[.slice none 0 0] 39)).heap[w.heap.size+1]? =some (.cells #[.slice none 0 0] 39 (0,0))):=Lib.hid (alloc_at (by simp))
 have hz2:((w.alloc (.cells #[.pointer (some ⟨g,0,none⟩)] 51)).alloc (.cells #[.slice none 0 0] 39)).heap.size=w.heap.size+2:=by simp
 have hc1:=Tryz.call140
 clear h
 go_enter Tryz.func102,Tryz.ntmps102
 go_wp2_with fail
 have HP2:=Lib.hid (HS.out.next HA.out)
 obtain ⟨w2,hw2⟩: ∃w2,((w.alloc (.cells #[.pointer (some ⟨g,0,none⟩)] 51)).alloc (.cells #[.slice none 0 0] 39))=w2:=⟨_,rfl⟩
 rw [hw2]at HA HB0 HB1 hz2 HP2⊢
 clear hw2
 have q0:w2.cell? ⟨w.heap.size,0,none⟩=some (.pointer (some ⟨g,0,none⟩)):=by rw [Lib.cell_of_heap HB0.out];rfl
 go_wp2_with fail
 refine (zaround g d [123] [125] 4 4 t0 v2 _ r 140 #[.pointer (some ⟨w.heap.size,0,none⟩),.pointer (some ⟨w.heap.size+1,0,none⟩)] [g,w.heap.size+1] (GZ w2.heap.size (w.heap.size+1) (.cons (.emit x) .nil)) w2 HP2.out hd (by simp) (fun x hx=> by simp at hx;omega) rfl rfl hc1 (fun W mW pW=> ?_)).mono ?_
 ·refine (zblk1 f g (d+1) w.heap.size (w.heap.size+1) l r1 r y x tv v v2 W pW hq hl (mW.box HB0.out (by simp;omega)) (mW.box HB1.out (by simp;omega)) hln hlt (by omega)).mono fun e w' ⟨m,p,v,e1,e2,A,k,c,g1,g2⟩=> ⟨m,p,v,e1,e2,A,k,c,g1,g2.more mW.size⟩
 rintro e w7 ⟨m7,p7,v7,rfl,rfl,W7,⟨A,k,c,e1,e2⟩,m8⟩
 have M7:Hid (Mod [g] w w7):=Lib.hid ((Mod.of_below HA.out).trans m7 (fun x hx=> by
  simp at hx
  rcases hx with rfl | rfl
  ·exact .inl (by simp)
  ·exact .inr (by omega)))
 have P7:=Lib.hid p7
 have e3:=m8.box e1 (by simp;omega)
 have x7:w7.cell? ⟨w.heap.size+1,0,none⟩=some (.slice A k c):=by rw [Lib.cell_of_heap e3];rfl
 have fr7:w7.frozen? ⟨w.heap.size+1,0,none⟩=false:=Lib.frozen_of_heap e3 0
 have S7:=Lib.hid (e2.mod m8 (fun b hb=> by simp at hb;omega))
 clear m7 p7 e1 e2 e3 m8
 go_wp2_with fail
 refine bodyPost_ret (v:= .slice A k c) (by simp [results,Tryz.results102,go_sem,x7]) rfl ?_
 refine ⟨?_,?_,_,rfl,A,k,c,rfl,?_⟩
 ·exact M7.out.set (.inr (Nat.le_succ _)) _
 ·exact P7.out.set (Nat.lt_succ_of_lt hlt) _
 ·exact (S7.out.mod ((Mod.refl _ _).set (bs:=[w.heap.size+1]) (.inl (by simp)) _) (fun b hb=> by simp at hb;omega)).more (by omega)
theorem prc_one {w W:World}{b0 b1 lo lo2 m d:Nat}{B:Option Addr}{b:Sts}(hM:Mod [b1,b0] w W)(rs:RowS w lo2 B m d b)(h1:b0 < lo2∧b1 < lo2)(h2:lo≤lo2)(n:List UInt8)(p q r:Int):
  ∃vs S,Value.agg #[sv n,.slice none 0 0,.slice B m d,nv p,nv q,nv r]= .agg vs.toArray∧PcR W S ⟨n,[],b⟩ vs∧In lo W S:=by
 have rs':=rs.mod hM (fun x hx=> by simp at hx;omega)
 obtain rfl:=rs'.one.1
 obtain ⟨ys,S,r1,r2,r3⟩:=rs'
 exact ⟨[sv n,.slice none 0 0,.slice B b.len d,nv p,nv q,nv r],S,rfl,⟨none,0,[],B,d,ys,p,q,r,rfl,⟨Row.nil_,rfl⟩,r1,r2⟩,fun x hx=> ⟨Nat.le_trans h2 (r3 x hx).1,(r3 x hx).2⟩⟩
theorem zproc (f g:Nat)(l r1 r:List Tok)(y x:Ex)(n:List UInt8)(v0 v1 v2 v3 v4 v5 v v6:Val)(w:World)(h:Pz w g 0 ((1,w_proc,v0)::(1,n,v1)::(4,[40],v2)::(4,[41],v3)::(4,[123],v4)::(1,w_emit,v5)::l))(hn:isNameL n=true∧n.length≤1000000)(hq:QO l y r1)(hl:QL f 0 y r1 x ((4,[59],v)::(4,[125],v6)::r))(hln:r.length < l.length):
  Calls Tryz.prog 48 #[.pointer (some ⟨g,0,none⟩)] w (Zut [g] g 0 w r fun w' v=> ∃vs S,v= .agg vs.toArray∧PcR w' S ⟨n,[],.cons (.emit x) .nil⟩ vs∧In w.heap.size w' S):=by
 have hlt:=h.lt
 have PW:Hid (Pz (w.alloc (.cells #[sv [],.slice none 0 0,.slice none 0 0,nv 0,nv 0,nv 0] 41)) g 0 _):=Lib.hid (h.alloc _)
 have HN:=Lib.hid hn
 have HQ:=Lib.hid hq
 have HL:=Lib.hid hl
 clear h hn hq hl
 go_enter Tryz.func48,Tryz.ntmps48
 go_wp2_with fail
 refine (zhere g 0 _ _ _ PW.out).mono ?_;rintro e w1 ⟨⟨ap,aq,ar,rfl⟩,hb1⟩
 have MW:Hid (Mod [g] w w1):=Lib.hid (((Mod.refl _ _).alloc _).then (.of_below hb1))
 have RB:Hid (w1.heap[w.heap.size]? =some (.cells #[sv [],.slice none 0 0,.slice none 0 0,nv 0,nv 0,nv 0] 41 (0,0))):=Lib.hid ((Mod.of_below (bs:=[g]) hb1).box (alloc_at rfl) (by simp;omega))
 replace PW:=Lib.hid (PW.out.next hb1)
 have hw01:w.heap.size < w1.heap.size:=(Array.getElem?_eq_some_iff.1 RB.out).1
 clear hb1
 go_wp2_with fail
 obtain ⟨w2,hw⟩: ∃W,w1.alloc (.cells #[sv [],.slice none 0 0,.slice none 0 0,nv ap,nv aq,nv ar] 41)=W:=⟨_,rfl⟩
 have hz2:w2.heap.size=w1.heap.size+1:=by rw [← hw];simp
 have BX:Hid (w2.heap[w1.heap.size]? =some (.cells #[sv [],.slice none 0 0,.slice none 0 0,nv ap,nv aq,nv ar] 41 (0,0))):=Lib.hid (by rw [← hw];exact alloc_at rfl)
 have m:Mod [g] w1 w2:=by rw [← hw];exact (Mod.refl _ _).alloc _
 replace PW:Hid (Pz w2 g 0 _):=Lib.hid (by rw [← hw];exact PW.out.alloc _)
 replace MW:=Lib.hid (MW.out.then m)
 replace RB:=Lib.hid (m.box RB.out (by simp;omega))
 first | rw [hw] | (unfold nv sv at hw;rw [hw])
 clear hw m
 refine (zwant g 0 _ w_proc _ _ (PW.out.alloc _) (by have:=PW.out.lt;omega) (alloc_at (by omega)) rfl).mono ?_;rintro e w3 ⟨mN,pN,vN,rfl,rfl⟩
 have m:Mod [g] w2 w3:=((Mod.refl _ _).alloc _).then mN
 simp only [List.tail_cons]at pN
 clear mN
 replace MW:=Lib.hid (MW.out.then m)
 replace BX:=Lib.hid (m.box BX.out (by simp;omega))
 replace RB:=Lib.hid (m.box RB.out (by simp;omega))
 replace PW:=Lib.hid pN
 clear m pN
 go_wp2_with fail
 refine (zname g 0 n v1 _ w3 PW.out HN.out.2 HN.out.1).mono ?_;rintro e w4 ⟨m,pN,vN,rfl,rfl⟩
 replace MW:=Lib.hid (MW.out.then m)
 replace BX:=Lib.hid (m.box BX.out (by simp;omega))
 replace RB:=Lib.hid (m.box RB.out (by simp;omega))
 replace PW:=Lib.hid pN
 clear m pN
 obtain ⟨⟨⟨⟨x0,x1⟩,x2,x3⟩,x4,x5⟩,⟨⟨s0,s1⟩,s2,s3⟩,s4,s5⟩:=And.intro (cells6F BX.out) (frozen6F BX.out)
 have hb4:w1.heap.size < w4.heap.size:=(Array.getElem?_eq_some_iff.1 BX.out).1
 go_wp2_with fail
 clear x0 x1 x2 x3 x4 x5 s0 s1 s2 s3 s4 s5
 obtain ⟨w5,hw⟩: ∃W,w4.setCell ⟨w1.heap.size,0,none⟩ (sv n)=W:=⟨_,rfl⟩
 have hz5:w5.heap.size=w4.heap.size:=by rw [← hw];simp
 have m:Mod [w1.heap.size] w4 w5:=by rw [← hw];exact (Mod.refl _ _).set (.inl (by simp)) _
 replace BX:Hid (w5.heap[w1.heap.size]? =some (.cells #[sv n,.slice none 0 0,.slice none 0 0,nv ap,nv aq,nv ar] 41 (0,0))):=Lib.hid (by rw [← hw];exact heap_set' BX.out _ 0 rfl)
 replace RB:=Lib.hid (m.box RB.out (by simp;omega))
 replace PW:=Lib.hid (PW.out.mod m (fun x hx=> by simp at hx;omega))
 replace MW:=Lib.hid (MW.out.trans m (fun x hx=> .inr (by simp at hx;omega)))
 first | rw [hw] | (unfold sv at hw;rw [hw])
 clear hw m hb4
 have hb5:w1.heap.size < w5.heap.size:=(Array.getElem?_eq_some_iff.1 BX.out).1
 refine (zwant g 0 _ [40] _ _ (PW.out.alloc _) (by have:=PW.out.lt;omega) (alloc_at (by omega)) rfl).mono ?_;rintro e w6 ⟨mN,pN,vN,rfl,rfl⟩
 have m:Mod [g] w5 w6:=((Mod.refl _ _).alloc _).then mN
 simp only [List.tail_cons]at pN
 clear mN
 replace MW:=Lib.hid (MW.out.then m)
 replace BX:=Lib.hid (m.box BX.out (by simp;omega))
 replace RB:=Lib.hid (m.box RB.out (by simp;omega))
 replace PW:=Lib.hid pN
 clear m pN
 go_wp2_with fail
 refine (zis g 0 _ [41] _ PW.out).mono ?_;rintro e w7 ⟨rfl,rfl⟩
 rw [show isT ((4,[41],v3)::(4,[123],v4)::(1,w_emit,v5)::l) [41]=true from rfl]
 go_wp2_with fail
 have hb7:w1.heap.size < w7.heap.size:=(Array.getElem?_eq_some_iff.1 BX.out).1
 refine (zwant g 0 _ [41] _ _ (PW.out.alloc _) (by have:=PW.out.lt;omega) (alloc_at (by omega)) rfl).mono ?_;rintro e w8 ⟨mN,pN,vN,rfl,rfl⟩
 have m:Mod [g] w7 w8:=((Mod.refl _ _).alloc _).then mN
 simp only [List.tail_cons]at pN
 clear mN
 replace MW:=Lib.hid (MW.out.then m)
 replace BX:=Lib.hid (m.box BX.out (by simp;omega))
 replace RB:=Lib.hid (m.box RB.out (by simp;omega))
 replace PW:=Lib.hid pN
 clear m pN
 go_wp2_with fail
 refine (zblock f g 0 l r1 r y x v4 v5 v v6 w8 PW.out HQ.out HL.out hln (by omega)).mono ?_;rintro e w9 ⟨m,pN,vN,rfl,B,mm,dd,rfl,hRS⟩
 have hwe:w1.heap.size < w8.heap.size:=(Array.getElem?_eq_some_iff.1 BX.out).1
 replace MW:=Lib.hid (MW.out.then m)
 replace BX:=Lib.hid (m.box BX.out (by simp;omega))
 replace RB:=Lib.hid (m.box RB.out (by simp;omega))
 replace PW:=Lib.hid pN
 clear m pN
 have RS:=Lib.hid hRS
 clear hRS
 obtain ⟨⟨⟨⟨x0,x1⟩,x2,x3⟩,x4,x5⟩,⟨⟨s0,s1⟩,s2,s3⟩,s4,s5⟩:=And.intro (cells6F BX.out) (frozen6F BX.out)
 obtain ⟨⟨⟨⟨z0,z1⟩,z2,z3⟩,z4,z5⟩,⟨⟨q0,q1⟩,q2,q3⟩,q4,q5⟩:=And.intro (cells6F RB.out) (frozen6F RB.out)
 have hne9:w.heap.size≠w1.heap.size:=by omega
 go_wp2_with fail
 refine bodyPost_ret (v:= .agg #[sv n,.slice none 0 0,.slice B mm dd,nv ap,nv aq,nv ar]) (by simp [results,Tryz.results48,go_sem,z0,z1,z2,z3,z4,z5]) rfl ?_
 refine ⟨?_,?_,_,rfl,prc_one (b0:=w.heap.size) (b1:=w1.heap.size) ?_ RS.out (by omega) (by omega) n ap aq ar⟩
 ·repeat (first | (with_reducible exact MW.out) | refine Mod.set ?_ (.inr (by omega)) _)
 ·repeat (first | (with_reducible exact PW.out) | refine Pz.set ?_ (by omega) _)
 ·repeat (first | (with_reducible exact Mod.refl _ _) | refine Mod.set ?_ (.inl (by simp)) _)
end Go.Proofs.YtnbmpfdffoidaaaGreatDoor.Y
namespace Go.Proofs.YtnbmpfdffoidaaaGreatDoor.Y
open Go.RowKit O V S X
def GWk (lo b:Nat)(t:Pc)(W:World):Prop:= ∃B d fs S,W.heap[b]? =some (.cells #[.slice none 0 0,.slice B 1 d] 25 (0,0))∧Row W S 6 B 1 d fs∧Reps (PcR W S) [t] fs∧In lo W S
theorem zwork (f g:Nat)(l r1:List Tok)(y x:Ex)(n:List UInt8)(v0 v1 v2 v3 v4 v5 v v6:Val)(w:World)(h:Pz w g 0 ((1,w_proc,v0)::(1,n,v1)::(4,[40],v2)::(4,[41],v3)::(4,[123],v4)::(1,w_emit,v5)::l))(hn:isNameL n=true∧n.length≤1000000)(hq:QO l y r1)(hl:QL f 0 y r1 x ((4,[59],v)::(4,[125],v6)::[]))(hln:0 < l.length):
  Calls Tryz.prog 17 #[.pointer (some ⟨g,0,none⟩)] w (Zut [g] g 0 w [] fun w' v=> ∃S,WkR w' S ⟨[],[⟨n,[],.cons (.emit x) .nil⟩]⟩ v∧In w.heap.size w' S):=by
 have hlt:=h.lt
 have HC:=Lib.hid (fun W (P:Pz W g 0 _)=> zproc f g l r1 [] y x n v0 v1 v2 v3 v4 v5 v v6 W P hn hq hl hln)
 obtain ⟨w1,hw⟩: ∃W,w.alloc (.cells #[.slice none 0 0,.slice none 0 0] 25)=W:=⟨_,rfl⟩
 have MW:Hid (Mod [g] w w1):=Lib.hid (by rw [← hw];exact (Mod.refl _ _).alloc _)
 have BX:Hid (w1.heap[w.heap.size]? =some (.cells #[.slice none 0 0,.slice none 0 0] 25 (0,0))):=Lib.hid (by rw [← hw];exact alloc_at rfl)
 have PW:Hid (Pz w1 g 0 _):=Lib.hid (by rw [← hw];exact h.alloc _)
 have hz1:w1.heap.size=w.heap.size+1:=by rw [← hw];simp
 generalize hL:((1,w_proc,v0)::(1,n,v1)::(4,[40],v2)::(4,[41],v3)::(4,[123],v4)::(1,w_emit,v5)::l)=L at HC PW
 have hi1:isT L [116,97,98,108,101]=false:=by rw [← hL];rfl
 have hi2:isT L [112,114,111,99]=true:=by rw [← hL];rfl
 have hll:0 < L.length:=by rw [← hL];simp
 clear h hn hq hl hln hL
 go_enter Tryz.func17,Tryz.ntmps17
 go_wp2_with fail
 clear hw
 go_loopw [] (fun wr=> wr=w1) (fun wr=> 0)
 case atStart=> rfl
 case round=>
  obtain rfl:=hrel.symm
  go_wp2_with fail
  refine (zis g 0 _ [116,97,98,108,101] _ PW.out).mono ?_;rintro e w2 ⟨rfl,hw2⟩
  obtain rfl:=hw2.symm
  rw [hi1]
  go_wp2_with fail
  go_loopw [] (fun wr=> (wr=w1)∨(Hid (GWk (w.heap.size+1) w.heap.size ⟨n,[],.cons (.emit x) .nil⟩ wr)∧Hid (Pz wr g 0 [])∧Hid (Mod [g] w wr))) (fun wr=> lenZ wr g)
  case atStart=> exact .inl rfl
  case round=>
   rcases hrel with hwr | ⟨HG,HP,HM⟩
   ·obtain rfl:=hwr.symm
    go_wp2_with fail
    refine (zis g 0 _ [112,114,111,99] _ PW.out).mono ?_;rintro e w3 ⟨rfl,hw3⟩
    obtain rfl:=hw3.symm
    rw [hi2]
    have q1:w1.cell? ⟨w.heap.size,1,none⟩=some (.slice none 0 0):=by rw [Lib.cell_of_heap BX.out];rfl
    go_wp2_with fail
    refine (zroom g 0 8 _ (by omega) (by omega)).mono ?_;rintro e w4 ⟨rfl,hw4⟩
    obtain rfl:=hw4.symm
    clear q1
    go_upto_region 6 with fail
    refine wp_region_last (l:=[_,_,_,_,_,_,_]) [w.heap.size] (.read 0 (.read 1 (.read 2 (.call 3 (.call 4 (.call 5 (.read 6 .done))))))) (by kernel_rfl) (by kernel_rfl) (by kernel_rfl) (fun _ _ d _ _ h=> by cases d <;> exact h) ?_
    refine pwith (fun W hW=> (show W.cell? ⟨w.heap.size,1,none⟩=some (.slice none 0 0) from by rw [Lib.cell_of_heap ((hW w.heap.size (by simp)).trans BX.out)];rfl)) (fun k7=> ?_)
    repeat (first | (refine prE ?_;simp only [Act.put,sA,sB,sC]) | (refine pkE ?_;simp only [Act.put,sA,sB,sC]))
    refine pcall rfl rfl (fun K hK=> ?_)
    go_simp
    refine (HC.out _ (PW.out.next (Below.refl _ _).drew)).mono ?_;rintro e wa ⟨m0,pa,va,rfl,vs,S,rfl,hpc,hin⟩
    have m:Mod [g] w1 wa:=(Mod.refl _ _).drew.then m0
    have hin2:In w1.heap.size wa S:=hin
    obtain ⟨PA,pc,pes,PB,pd,pbs,pp,pq,pr,e1,_⟩:=id hpc
    subst e1
    have hba:=m.size
    have hkb:wa.heap[w.heap.size]? =w1.heap[w.heap.size]? :=m.block w.heap.size (by omega) (by simp;omega)
    clear m0 hin
    go_wp2_with fail
    refine hK.out _ _ (fun b hb=> by simp at hb;rw [hb];exact hkb) ?_
    clear hK K k7
    try simp only [Act.put,sA,sB,sC]
    refine pcall rfl rfl (fun K hK=> ?_)
    go_simp
    refine hK.out _ _ (fun b hb=> Below.heap_alloc _ _ _ (by simp at hb;omega)) ?_
    clear hK K
    try simp only [Act.put,sA,sB,sC]
    obtain ⟨wb,hw⟩: ∃W,wa.alloc (.cells #[sv n,.slice PA 0 pc,.slice PB (Sts.cons (.emit x) .nil).len pd,nv pp,nv pq,nv pr] 41)=W:=⟨_,rfl⟩
    have mb:Mod [g] wa wb:=by rw [← hw];exact (Mod.refl _ _).alloc _
    have RD:Hid (Rd wb (wa.heap.size+1) 6 (some ⟨wa.heap.size,0,none⟩) 1 [sv n,.slice PA 0 pc,.slice PB (Sts.cons (.emit x) .nil).len pd,nv pp,nv pq,nv pr]):=Lib.hid (by rw [← hw];exact Rd.made _ _ rfl rfl)
    have hzb:wb.heap.size=wa.heap.size+1:=by rw [← hw];simp
    have PB2:Pz wb g 0 []:=by rw [← hw];exact pa.alloc _
    have hpc2:PcR wb S _ _:=PcR.keep (fun b hb=> mb.block b (hin2 b hb).2 (by have:=hin2 b hb;simp;omega)) _ _ hpc
    have BXb:=mb.box (m.box BX.out (by simp;omega)) (by simp;omega)
    first | rw [hw] | (unfold nv sv at hw;rw [hw])
    clear hw
    refine pcall rfl rfl (fun K hK=> ?_)
    refine wapp4 (.tmp 25) (.tmp 28) pc_E rfl (w.heap.size+1) [] rfl (World.ownsRow_nil _ _ _ _) rfl [sv n,.slice PA 0 pc,.slice PB (Sts.cons (.emit x) .nil).len pd,nv pp,nv pq,nv pr] RD.out (by simp [Value.oneCell']) (by unfold maxLen;omega) (by omega) (by omega) rfl ?_
    intro A7 c7 w7 o7 g7 h7
    have m7:Mod [] wb w7:=(Mod.refl _ _).grown g7 (fun j hj=> by simp [Value.ownBlock]at hj)
    have hg9: ∀b,(Value.slice A7 (0+1) c7).ownBlock=some b→wb.heap.size≤b:=fun b hb=> by
     rcases h7 with h | h
     ·rw [h]at hb;simp [Value.ownBlock]at hb
     ·rw [h]at hb;injection hb with hb;omega
    refine hK.out _ _ (fun b hb=> m7.block b (by simp at hb;omega) (by simp)) ?_
    clear hK K
    try simp only [Act.put,sA,sB,sC]
    repeat (first | (refine prE ?_;simp only [Act.put,sA,sB,sC]) | (refine pkE ?_;simp only [Act.put,sA,sB,sC]))
    refine pdone ?_
    refine last_step rfl (fun K hK=> ?_)
    have BX7:=m7.box BXb (by simp)
    have q1:w7.cell? ⟨w.heap.size,1,none⟩=some (.slice none 0 0):=by rw [Lib.cell_of_heap BX7];rfl
    have qf1:w7.frozen? ⟨w.heap.size,1,none⟩=false:=Lib.frozen_of_heap BX7 1
    go_simp
    refine hK.out _ _ ?_
    clear hK K q1 qf1
    obtain ⟨wF,hw⟩: ∃W,w7.setCell ⟨w.heap.size,1,none⟩ (.slice A7 1 c7)=W:=⟨_,rfl⟩
    have mF:Mod [w.heap.size] w7 wF:=by rw [← hw];exact (Mod.refl _ _).set (.inl (by simp)) _
    have XF:wF.heap[w.heap.size]? =some (.cells #[.slice none 0 0,.slice A7 1 c7] 25 (0,0)):=by rw [← hw];exact heap_set' BX7 _ 1 rfl
    rw [hw]
    have oF:=own_mod o7 mF (fun j hj=> by have:=hg9 j hj;simp;omega)
    have mV:Mod [w.heap.size] wb wF:=(m7.more (fun x hx=> by cases hx)).then mF
    have GF:Hid (GWk (w.heap.size+1) w.heap.size ⟨n,[],.cons (.emit x) .nil⟩ wF):=Lib.hid (by
     have T8:=PcR.keep (fun b hb=> mV.block b (Nat.lt_of_lt_of_le (hin2 b hb).2 mb.size) (by have:=hin2 b hb;simp;omega)) _ _ hpc2
     refine ⟨A7,c7,_,fun b=> S b∨(Value.slice A7 1 c7).ownBlock=some b,XF,Row.of_own oF (fun _ h=> .inr h),.one (PcR.mono (fun _ h=> .inl h) _ _ T8),?_⟩
     rintro b (hb | hb)
     ·have:=hin2 b hb
      have:=mb.size
      have:=mV.size
      exact ⟨by omega,by omega⟩
     ·exact oF.lt b hb)
    have PF:Hid (Pz wF g 0 []):=Lib.hid (PB2.mod mV (fun x hx=> by simp at hx;omega))
    have MF:Hid (Mod [g] w wF):=Lib.hid (((MW.out.then m).then mb).trans mV (fun x hx=> .inr (by simp at hx;omega)))
    have hl1:=PW.out.len
    clear hw mF XF oF mV BX7 m7 g7 h7 o7 hg9 BXb hpc2 PB2 RD mb m hpc hin2 pa hkb
    go_wp2_with fail
    go_roundw
    case rel=> exact .inr ⟨GF,PF,MF⟩
    case measure=> rw [PF.out.len,hl1];simpa using hll
   ·go_wp2_with fail
    refine (zis g 0 _ [112,114,111,99] _ HP.out).mono ?_;rintro e w3 ⟨rfl,rfl⟩
    rw [show isT [] [112,114,111,99]=false from rfl]
    obtain ⟨PA,pn,pc,pa,pb,pe,hp⟩:=HP.out
    have hpl:=hp.row.len
    have px0:=hp.cells.1.1
    obtain rfl:pn=0:=by simpa using hpl.symm
    obtain ⟨B,d,fs,S,gx,gr,gp,gi⟩:=HG.out
    have q0:w3.cell? ⟨w.heap.size,0,none⟩=some (.slice none 0 0):=by rw [Lib.cell_of_heap gx];rfl
    have q1:w3.cell? ⟨w.heap.size,1,none⟩=some (.slice B 1 d):=by rw [Lib.cell_of_heap gx];rfl
    have qf0:w3.frozen? ⟨w.heap.size,0,none⟩=false:=Lib.frozen_of_heap gx 0
    have qf1:w3.frozen? ⟨w.heap.size,1,none⟩=false:=Lib.frozen_of_heap gx 1
    have GI:=Lib.hid gi
    have GR:=Lib.hid gr
    have GP:=Lib.hid gp
    clear hp hpl gx gi gr gp
    go_wp2_with fail
    refine bodyPost_ret (v:= .agg #[.slice none 0 0,.slice B 1 d]) (by simp [results,Tryz.results17,go_sem,q0,q1]) rfl ?_
    have hk: ∀b,S b→b≠w.heap.size:=fun b hb=> by have:=GI.out b hb;omega
    refine ⟨?_,?_,_,rfl,S,⟨none,0,[],B,d,fs,rfl,⟨Row.nil_,rfl⟩,?_,?_⟩,?_⟩
    ·repeat (first | (with_reducible exact HM.out) | refine Mod.set ?_ (.inr (Nat.le_refl _)) _)
    ·repeat (first | (with_reducible exact HP.out) | refine Pz.set ?_ hlt _)
    ·exact GR.out.keep fun b hb=> by rw [Below.heap_setCell _ _ _ _ (hk b hb),Below.heap_setCell _ _ _ _ (hk b hb)]
    ·exact GP.out.imp fun t vs=> PcR.keep (fun b hb=> by rw [Below.heap_setCell _ _ _ _ (hk b hb),Below.heap_setCell _ _ _ _ (hk b hb)]) t vs
    ·intro b hb
     have:=GI.out b hb
     simp
     omega
end Go.Proofs.YtnbmpfdffoidaaaGreatDoor.Y
