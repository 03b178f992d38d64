/- Texts of the proof, joined: RfU. -/
import Derived.Test.YtnbmpfdffoidaaaGreatDoorPr09
set_option linter.unusedVariables false
set_option linter.unusedSimpArgs false
set_option maxHeartbeats 8000000
set_option maxRecDepth 100000
namespace Go.Proofs.YtnbmpfdffoidaaaGreatDoor.Y
open Go.RowKit O V S X
theorem f_here (g:Nat)(σ:Sg)(w:World)(h:ST w g σ):Calls Tryz.prog 62 #[.pointer (some ⟨g,0,none⟩)] w fun e w'=> (∃p q r:Int,e= .returned (.agg #[nv p,nv q,nv r]))∧Below w.heap.size w w':=by
 match σ,h with
 | none,⟨A,n,c,L,d,e,a,b,x,p,q,r,_,h⟩=> exact here_end h
 | some (d,[]),⟨A,n,c,L,i,a,b,x,p,q,r,⟨hl,hi,_⟩,h⟩=>
  have hin:i=n:=by
   have:=congrArg List.length hl
   have hn:=h.row.len
   simp at this
   omega
  subst hin
  exact here_end h
 | some (d,t::l),⟨A,n,c,L,i,a,b,x,p,q,r,⟨hl,_,_⟩,h⟩=>
  obtain ⟨hi,_,_⟩:=drop_cons hl
  exact here_at h hi
def decS (σ:Sg):Sg:=σ.map fun (d,l)=> (d - 1,l)
theorem ST.box {w:World}{g:Nat}{σ:Sg}(h:ST w g σ): ∃(A:Option Addr) (n c:Nat) (iv dv ev a b x p q r:Int),w.heap[g]? =some (rfB A n c iv dv ev a b x p q r)∧((σ=none→ev≠0)∧(σ≠none→ev=0))∧
  ((∀d l,σ=some (d,l)→1≤d)→ST (w.setCell ⟨g,2,none⟩ (nv (wrap64 (dv - 1)))) g (decS σ)):=by
 match σ,h with
 | none,⟨A,n,c,L,d,e,a,b,x,p,q,r,he,h⟩=>
  exact ⟨A,n,c,_,d,e,a,b,x,p,q,r,h.box,⟨fun _=> he,fun h=> absurd rfl h⟩,fun _=> ⟨A,n,c,L,_,e,a,b,x,p,q,r,he,h.setD _⟩⟩
 | some (d,l),⟨A,n,c,L,i,a,b,x,p,q,r,⟨hl,hi,hd⟩,h⟩=>
  refine ⟨A,n,c,_,d,0,a,b,x,p,q,r,h.box,⟨(fun h=> nomatch h),fun _=> rfl⟩,fun h1=> ?_⟩
  have:=h1 d l rfl
  have hwr:wrap64 ((d:Int) - 1)=((d - 1:Nat):Int):=by rw [IntWalk.wrap64_in _ (by omega)];omega
  rw [hwr]
  exact ⟨A,n,c,L,i,a,b,x,p,q,r,⟨hl,hi,by omega⟩,h.setD _⟩
theorem exB_of {W:World}{b:Nat}{k vk vn:Int}{vs nm cc:List UInt8}{o:Int}{a:Value}{p q r:Int}{x:Ex}{A:Option Addr}{c:Nat}{p' q' r':Int}(h:W.heap[b]? =some (exB k vk vn vs nm cc o a p q r))(e:exVal k vk vn vs nm cc o a p q r=exX x A c p' q' r'):
  W.heap[b]? =some (.cells #[nv (hdK x),nv (hdV x).k,nv (hdV x).n,sv (hdV x).s,sv (hdN x),sv (hdC x),nv (hdO x:Nat),.slice A (parts x).length c,nv p',nv q',nv r'] 59 (0,0)):=by
 have:=Value.agg.inj e
 unfold exB at h
 rw [this]at h
 exact h
theorem ExAt.one {w:World}{S:Nat→Prop}{x y:Ex}{A:Option Addr}{c b:Nat}{p q r:Int}{T:TypeId}(h:ExAt w S y A c)(hb:w.heap[b]? =some (.cells #[nv (hdK y),nv (hdV y).k,nv (hdV y).n,sv (hdV y).s,sv (hdN y),sv (hdC y),nv (hdO y:Nat),.slice A (parts y).length c,nv p,nv q,nv r] T (0,0)))(hx:parts x=[y]):
  ExAt w (fun k=> S k∨k=b) x (some ⟨b,0,none⟩) 1:=by
 refine ⟨⟨exC y (.slice A (parts y).length c) p q r,?_,?_⟩⟩
 ·rw [hx]
  exact Row.of_block (xs:=exC y (.slice A (parts y).length c) p q r) hb (.inr rfl) rfl (by simp) (by simp)
 ·rw [hx]
  exact ⟨_,[],(List.append_nil _).symm,(ExR.mono (fun k hk=> .inl hk) y _ (h.r p q r)),rfl⟩
theorem f_unary (f:Nat)(HU:UnaryC f)(HO:OperandC f):UnaryC (f+1):=by
 intro σ w g h hm
 have HU:=Lib.hid HU
 have HO:=Lib.hid HO
 by_cases h1:txS σ=[33]
 ·have s1:(txS σ==[33])=true:=by simpa using h1
  go_enter Tryz.func171,Tryz.ntmps171
  go_upto_region 1 with fail
  have RX:Hid ((w.alloc zExO).heap[w.heap.size]? =some zExB):=Lib.hid (alloc_at rfl)
  have MW:Hid (Mod [g] w (w.alloc zExO)):=Lib.hid ((Mod.refl _ _).alloc _)
  have SW:=Lib.hid (h.next ((Below.refl _ _).alloc (Nat.le_refl _) zExO))
  have hlt:=h.lt
  obtain ⟨w1,hw1⟩: ∃W,w.alloc zExO=W:=⟨_,rfl⟩
  have hz1:w.heap.size < w1.heap.size:=by rw [← hw1];simp
  rw [hw1]at RX MW SW⊢
  clear hw1 h
  go_wp2_with fail
  refine (f_here g σ w1 SW.out).mono ?_;rintro e w2 ⟨⟨pp,pq,pr,rfl⟩,b2⟩
  replace RX:=Lib.hid (box_next RX.out b2)
  replace MW:=Lib.hid (MW.out.then (.of_below b2))
  replace SW:=Lib.hid (SW.out.next b2)
  have hz2:=b2.size
  clear b2
  go_upto_region 2 with fail
  have BX:Hid ((w2.alloc (exO 7 0 0 [] [] [] 0 (.slice none 0 0) pp pq pr)).heap[w2.heap.size]? =some (exB 7 0 0 [] [] [] 0 (.slice none 0 0) pp pq pr)):=Lib.hid (alloc_at rfl)
  replace RX:=Lib.hid (box_next RX.out (one_new (o:=exO 7 0 0 [] [] [] 0 (.slice none 0 0) pp pq pr)))
  replace MW:=Lib.hid (MW.out.alloc (exO 7 0 0 [] [] [] 0 (.slice none 0 0) pp pq pr))
  replace SW:=Lib.hid (SW.out.next (one_new (o:=exO 7 0 0 [] [] [] 0 (.slice none 0 0) pp pq pr)))
  obtain ⟨w3,hw3⟩: ∃W,w2.alloc (exO 7 0 0 [] [] [] 0 (.slice none 0 0) pp pq pr)=W:=⟨_,rfl⟩
  have hz3:w2.heap.size < w3.heap.size:=by rw [← hw3];simp
  rw [hw3]at BX RX MW SW
  rw [hw3]
  clear hw3
  go_wp2_with fail
  refine (f_text g σ w3 SW.out).mono ?_;rintro e w4 ⟨rfl,bt⟩
  replace RX:=Lib.hid (box_next RX.out bt)
  replace MW:=Lib.hid (MW.out.then (.of_below bt))
  replace SW:=Lib.hid (SW.out.next bt)
  have hzw4:=bt.size
  replace BX:=Lib.hid (box_next BX.out bt)
  clear bt
  obtain ⟨⟨⟨⟨x0,x1⟩,x2,x3⟩,⟨x4,x5⟩,x6,x7⟩,⟨x8,x9⟩,x10⟩:=cells11 BX.out
  obtain ⟨⟨⟨⟨f0,f1⟩,f2,f3⟩,⟨f4,f5⟩,f6,f7⟩,⟨f8,f9⟩,f10⟩:=frozen11 BX.out
  go_upto_region 7 with fail
  clear x0 x1 x2 x3 x4 x5 x6 x7 x8 x9 x10 f0 f1 f2 f3 f4 f5 f6 f7 f8 f9 f10
  obtain ⟨w5,hw5⟩: ∃W,w4.setCell ⟨w2.heap.size,6,none⟩ (nv 13)=W:=⟨_,rfl⟩
  have BX:Hid (w5.heap[w2.heap.size]? =some (exB 7 0 0 [] [] [] 13 (.slice none 0 0) pp pq pr)):=Lib.hid (by rw [← hw5];exact heap_set (i:=6) BX.out (nv 13))
  replace RX:Hid (w5.heap[w.heap.size]? =some zExB):=Lib.hid (by rw [← hw5,Below.heap_setCell _ _ _ _ (by simp only;omega)];exact RX.out)
  replace MW:Hid (Mod [g] w w5):=Lib.hid (by rw [← hw5];exact MW.out.trans (mod_set (g:=w2.heap.size) (i:=6) (nv 13)) (fun x hx=> .inr (by simp at hx;omega)))
  replace SW:Hid (ST w5 g σ):=Lib.hid (by rw [← hw5];exact SW.out.keep fun j hj=> Below.heap_setCell _ _ _ _ (by simp only;omega))
  have hz5:w2.heap.size < w5.heap.size:=by rw [← hw5];simp;omega
  rw [hw5]
  clear hw5
  go_wp2_with fail
  refine (f_text g σ w5 SW.out).mono ?_;rintro e w6 ⟨rfl,bt⟩
  replace RX:=Lib.hid (box_next RX.out bt)
  replace MW:=Lib.hid (MW.out.then (.of_below bt))
  replace SW:=Lib.hid (SW.out.next bt)
  have hzw6:=bt.size
  replace BX:=Lib.hid (box_next BX.out bt)
  clear bt
  rw [h1]
  go_wp2_with fail
  refine (f_open g σ [33] (by simp) w6 SW.out).mono ?_;rintro e w7 ⟨rfl,h7,m7⟩
  replace RX:=Lib.hid (m7.box RX.out (by simp;omega))
  replace BX:=Lib.hid (m7.box BX.out (by simp;omega))
  replace MW:=Lib.hid (MW.out.then m7)
  have hz7:=m7.size
  have HOP:Hid (∀d l,openS σ [33]=some (d,l)→∃d1 t,σ=some (d1,t::l)∧d=d1+1∧W 1 (t::l)=2+W 1 l∧t.2.1=[33]):=Lib.hid fun d l he=> openS_inv (by simp) he
  clear m7 SW
  cases hσ2:openS σ [33]with
  | none=>
   rw [hσ2]at h7
   have SW:=Lib.hid h7
   obtain ⟨PA,pn,pc,iv,dv,ev,pa,pb,px,py,pz,pw,hbox,hev,_⟩:=h7.box
   have he0:(ev !=0)=true:=by have:=hev.1 rfl;simpa using this
   obtain ⟨⟨⟨c0,c1⟩,c2,c3⟩,⟨⟨c4,c5⟩,c6,c7⟩,c8,c9⟩:=cells10 hbox
   clear h7 hbox hev
   go_upto_region 9 with fail
   clear c0 c1 c2 c3 c4 c5 c6 c7 c8 c9
   obtain ⟨⟨⟨⟨x0,x1⟩,x2,x3⟩,⟨x4,x5⟩,x6,x7⟩,⟨x8,x9⟩,x10⟩:=cells11 BX.out
   obtain ⟨⟨⟨⟨f0,f1⟩,f2,f3⟩,⟨f4,f5⟩,f6,f7⟩,⟨f8,f9⟩,f10⟩:=frozen11 BX.out
   obtain ⟨⟨⟨⟨z0,z1⟩,z2,z3⟩,⟨z4,z5⟩,z6,z7⟩,⟨z8,z9⟩,z10⟩:=cells11 RX.out
   obtain ⟨⟨⟨⟨v0,v1⟩,v2,v3⟩,⟨v4,v5⟩,v6,v7⟩,⟨v8,v9⟩,v10⟩:=frozen11 RX.out
   go_wp2_with fail
   clear z0 z1 z2 z3 z4 z5 z6 z7 z8 z9 z10 v0 v1 v2 v3 v4 v5 v6 v7 v8 v9 v10
   have X3:=set11_box (u0:=nv 7) (u1:=nv 0) (u2:=nv 0) (u3:=sv []) (u4:=sv []) (u5:=sv []) (u6:=nv 13) (u7:= .slice none 0 0) (u8:=nv pp) (u9:=nv pq) (u10:=nv pr) (vs:=[nv 0,nv 0,nv 0,sv [],sv [],sv [],nv 0,.slice none 0 0,nv 0,nv 0,nv 0]) RX.out rfl
   have M3:=set11_mod (w:=w7) (b:=w.heap.size) (u0:=nv 7) (u1:=nv 0) (u2:=nv 0) (u3:=sv []) (u4:=sv []) (u5:=sv []) (u6:=nv 13) (u7:= .slice none 0 0) (u8:=nv pp) (u9:=nv pq) (u10:=nv pr)
   have O3:=fun (j:Nat) (hj:j≠w.heap.size)=> set11_other (w:=w7) (u0:=nv 7) (u1:=nv 0) (u2:=nv 0) (u3:=sv []) (u4:=sv []) (u5:=sv []) (u6:=nv 13) (u7:= .slice none 0 0) (u8:=nv pp) (u9:=nv pq) (u10:=nv pr) hj
   obtain ⟨wz,hwz⟩: ∃W,set11 w7 w.heap.size (nv 7) (nv 0) (nv 0) (sv []) (sv []) (sv []) (nv 13) (.slice none 0 0) (nv pp) (nv pq) (nv pr)=W:=⟨_,rfl⟩
   rw [hwz]at X3 M3 O3
   unfold set11 at hwz
   rw [hwz]
   clear hwz
   obtain ⟨⟨⟨⟨y0,y1⟩,y2,y3⟩,⟨y4,y5⟩,y6,y7⟩,⟨y8,y9⟩,y10⟩:=cells11 X3
   refine bodyPost_ret (v:=exVal 7 0 0 [] [] [] 13 (.slice none 0 0) pp pq pr) (by simp [results,Tryz.results171,go_sem,y0,y1,y2,y3,y4,y5,y6,y7,y8,y9,y10]) rfl ?_
   exact ⟨_,none,rfl,⟨7,0,0,[],[],[],13,none,0,0,pp,pq,pr,rfl⟩,SW.out.keep (fun j hj=> O3 j (by omega)),MW.out.trans M3 (fun x hx=> .inr (by simp at hx;omega)),trivial⟩
  | some y=>
   obtain ⟨d2,l2⟩:=y
   rw [hσ2]at h7
   have SW:=Lib.hid h7
   obtain ⟨PA,pn,pc,iv,dv0,ev,pa,pb,px,py,pz,pw,hbox,hev,hdec0⟩:=h7.box
   clear hdec0
   obtain rfl:ev=0:=hev.2 (by simp)
   obtain ⟨⟨⟨c0,c1⟩,c2,c3⟩,⟨⟨c4,c5⟩,c6,c7⟩,c8,c9⟩:=cells10 hbox
   clear h7 hbox hev
   obtain ⟨d1,t1,e1,e2,hw1,_⟩:=HOP.out d2 l2 hσ2
   go_wp2_with fail
   clear c0 c1 c2 c3 c4 c5 c6 c7 c8 c9
   refine (HU.out (some (d2,l2)) w7 g SW.out (by subst e1;simp [lenS]at hm⊢;omega)).mono ?_;rintro e w8 ⟨V,σ3,rfl,⟨k,vk,vn,vs,nm,cc,o,A,m,c,p,q,r,rfl⟩,h8,m8,hx⟩
   have HX:=Lib.hid hx
   replace RX:=Lib.hid (m8.box RX.out (by simp;omega))
   replace BX:=Lib.hid (m8.box BX.out (by simp;omega))
   replace MW:=Lib.hid (MW.out.then m8)
   replace SW:=Lib.hid h8
   have hz8:=m8.size
   have HD3:Hid (∀d l,σ3=some (d,l)→1≤d):=Lib.hid fun d l e3=> by
    have hq:=HX.out
    rw [e3]at hq
    obtain ⟨d',l',x,A',c',p',q',z',S',⟨e4,e5,_⟩,_⟩:=hq
    injection e4 with e4
    injection e4 with e4 _
    omega
   clear hx h8 m8
   obtain ⟨wa,hwa⟩: ∃W,w8.alloc (exO k vk vn vs nm cc o (.slice A m c) p q r)=W:=⟨_,rfl⟩
   have AX:Hid (wa.heap[w8.heap.size]? =some (exB k vk vn vs nm cc o (.slice A m c) p q r)):=Lib.hid (by rw [← hwa];exact alloc_at rfl)
   have KA:Hid (Below w8.heap.size w8 wa):=Lib.hid (by rw [← hwa];exact one_new)
   have hza:w8.heap.size < wa.heap.size:=by rw [← hwa];simp
   replace RX:=Lib.hid (box_next RX.out KA.out)
   replace BX:=Lib.hid (box_next BX.out KA.out)
   replace MW:=Lib.hid (MW.out.then (.of_below KA.out))
   replace SW:=Lib.hid (SW.out.next KA.out)
   have HWA:=Lib.hid hwa
   obtain ⟨⟨⟨⟨x0,x1⟩,x2,x3⟩,⟨x4,x5⟩,x6,x7⟩,⟨x8,x9⟩,x10⟩:=cells11 BX.out
   obtain ⟨⟨⟨⟨f0,f1⟩,f2,f3⟩,⟨f4,f5⟩,f6,f7⟩,⟨f8,f9⟩,f10⟩:=frozen11 BX.out
   rw [← hwa]at x0 x1 x2 x3 x4 x5 x6 x7 x8 x9 x10 f0 f1 f2 f3 f4 f5 f6 f7 f8 f9 f10
   clear hwa
   go_upto_region 11 with fail
   clear x0 x1 x2 x3 x4 x5 x6 x7 x8 x9 x10 f0 f1 f2 f3 f4 f5 f6 f7 f8 f9 f10
   rw [HWA.out]
   obtain ⟨w9,hw9⟩: ∃W,wa.setCell ⟨w2.heap.size,7,none⟩ (.slice (some ⟨w8.heap.size,0,none⟩) 1 1)=W:=⟨_,rfl⟩
   have K9:Hid (∀b,b≠w2.heap.size→w9.heap[b]? =wa.heap[b]?):=Lib.hid fun b hb=> by rw [← hw9];exact Below.heap_setCell _ _ _ _ hb
   have BX9:Hid (w9.heap[w2.heap.size]? =some (exB 7 0 0 [] [] [] 13 (.slice (some ⟨w8.heap.size,0,none⟩) 1 1) pp pq pr)):=Lib.hid (by rw [← hw9];exact heap_set (i:=7) BX.out (.slice (some ⟨w8.heap.size,0,none⟩) 1 1))
   have M9:Mod [g] w w9:=by rw [← hw9];exact MW.out.trans (mod_set (g:=w2.heap.size) (i:=7) _) (fun x hx=> .inr (by simp at hx;omega))
   have hz9:w9.heap.size=wa.heap.size:=by rw [← hw9];simp
   rw [hw9]
   clear hw9 BX
   replace AX:=Lib.hid ((K9.out _ (by omega)).trans AX.out)
   replace RX:=Lib.hid ((K9.out _ (by omega)).trans RX.out)
   replace SW:=Lib.hid (SW.out.keep fun j hj=> K9.out j (by omega))
   replace MW:=Lib.hid M9
   clear M9
   obtain ⟨QA,qn,qc,iv,dv,ev2,qa,qb,qx,qy,qz,qw,hbox,_,hdec⟩:=SW.out.box
   have hdec2:=Lib.hid (hdec HD3.out)
   obtain ⟨⟨⟨c0,c1⟩,c2,c3⟩,⟨⟨c4,c5⟩,c6,c7⟩,c8,c9⟩:=cells10 hbox
   obtain ⟨⟨⟨g0,g1⟩,g2,g3⟩,⟨⟨g4,g5⟩,g6,g7⟩,g8,g9⟩:=frozen10 hbox
   clear hbox hdec
   go_upto_region 12 with fail
   clear c0 c1 c2 c3 c4 c5 c6 c7 c8 c9 g0 g1 g2 g3 g4 g5 g6 g7 g8 g9
   obtain ⟨w10,hw10⟩: ∃W,w9.setCell ⟨g,2,none⟩ (nv (wrap64 (dv - 1)))=W:=⟨_,rfl⟩
   have K10:Hid (∀b,b≠g→w10.heap[b]? =w9.heap[b]?):=Lib.hid fun b hb=> by rw [← hw10];exact Below.heap_setCell _ _ _ _ hb
   have hz10:w10.heap.size=w9.heap.size:=by rw [← hw10];simp
   replace MW:Hid (Mod [g] w w10):=Lib.hid (by rw [← hw10];exact MW.out.then (mod_set (g:=g) (i:=2) _))
   rw [hw10]at hdec2
   rw [hw10]
   clear hw10 SW
   replace AX:=Lib.hid ((K10.out _ (by omega)).trans AX.out)
   replace RX:=Lib.hid ((K10.out _ (by omega)).trans RX.out)
   have BX:=Lib.hid ((K10.out _ (by omega)).trans BX9.out)
   obtain ⟨⟨⟨⟨x0,x1⟩,x2,x3⟩,⟨x4,x5⟩,x6,x7⟩,⟨x8,x9⟩,x10⟩:=cells11 BX.out
   obtain ⟨⟨⟨⟨f0,f1⟩,f2,f3⟩,⟨f4,f5⟩,f6,f7⟩,⟨f8,f9⟩,f10⟩:=frozen11 BX.out
   obtain ⟨⟨⟨⟨z0,z1⟩,z2,z3⟩,⟨z4,z5⟩,z6,z7⟩,⟨z8,z9⟩,z10⟩:=cells11 RX.out
   obtain ⟨⟨⟨⟨v0,v1⟩,v2,v3⟩,⟨v4,v5⟩,v6,v7⟩,⟨v8,v9⟩,v10⟩:=frozen11 RX.out
   go_wp2_with fail
   clear z0 z1 z2 z3 z4 z5 z6 z7 z8 z9 z10 v0 v1 v2 v3 v4 v5 v6 v7 v8 v9 v10
   have X3:=set11_box (u0:=nv 7) (u1:=nv 0) (u2:=nv 0) (u3:=sv []) (u4:=sv []) (u5:=sv []) (u6:=nv 13) (u7:= .slice (some ⟨w8.heap.size,0,none⟩) 1 1) (u8:=nv pp) (u9:=nv pq) (u10:=nv pr) (vs:=[nv 0,nv 0,nv 0,sv [],sv [],sv [],nv 0,.slice none 0 0,nv 0,nv 0,nv 0]) RX.out rfl
   have M3:=set11_mod (w:=w10) (b:=w.heap.size) (u0:=nv 7) (u1:=nv 0) (u2:=nv 0) (u3:=sv []) (u4:=sv []) (u5:=sv []) (u6:=nv 13) (u7:= .slice (some ⟨w8.heap.size,0,none⟩) 1 1) (u8:=nv pp) (u9:=nv pq) (u10:=nv pr)
   have O3:=fun (j:Nat) (hj:j≠w.heap.size)=> set11_other (w:=w10) (u0:=nv 7) (u1:=nv 0) (u2:=nv 0) (u3:=sv []) (u4:=sv []) (u5:=sv []) (u6:=nv 13) (u7:= .slice (some ⟨w8.heap.size,0,none⟩) 1 1) (u8:=nv pp) (u9:=nv pq) (u10:=nv pr) hj
   obtain ⟨wz,hwz⟩: ∃W,set11 w10 w.heap.size (nv 7) (nv 0) (nv 0) (sv []) (sv []) (sv []) (nv 13) (.slice (some ⟨w8.heap.size,0,none⟩) 1 1) (nv pp) (nv pq) (nv pr)=W:=⟨_,rfl⟩
   rw [hwz]at X3 M3 O3
   unfold set11 at hwz
   rw [hwz]
   clear hwz
   obtain ⟨⟨⟨⟨y0,y1⟩,y2,y3⟩,⟨y4,y5⟩,y6,y7⟩,⟨y8,y9⟩,y10⟩:=cells11 X3
   refine bodyPost_ret (v:=exVal 7 0 0 [] [] [] 13 (.slice (some ⟨w8.heap.size,0,none⟩) 1 1) pp pq pr) (by simp [results,Tryz.results171,go_sem,y0,y1,y2,y3,y4,y5,y6,y7,y8,y9,y10]) rfl ?_
   refine ⟨_,decS σ3,rfl,⟨7,0,0,[],[],[],13,_,1,1,pp,pq,pr,rfl⟩,hdec2.out.keep (fun j hj=> O3 j (by omega)),MW.out.trans M3 (fun x hx=> .inr (by simp at hx;omega)),?_⟩
   cases σ3 with
   | none=> trivial
   | some y=>
    obtain ⟨d',r'⟩:=y
    obtain ⟨d,l,x,A',c',p',q',z',S',⟨e5,e6,hl⟩,⟨e7,hat,hin⟩,hok,hW⟩:=HX.out
    injection e5 with e5
    injection e5 with e8 e9
    subst e8 e9
    have hkz: ∀b,b < w8.heap.size→b≠g→b≠w2.heap.size→b≠w.heap.size→wz.heap[b]? =w8.heap[b]? :=fun b h1 h2 h3 h4=> (O3 b h4).trans ((K10.out b h2).trans ((K9.out b h3).trans (KA.out.block b h1)))
    have hat2:=hat.keep (w':=wz) fun b hb=> hkz b (hin b hb).2 (by have:=(hin b hb).1;omega) (by have:=(hin b hb).1;omega) (by have:=(hin b hb).1;omega)
    have AX2:=(O3 w8.heap.size (by omega)).trans AX.out
    replace AX2:=exB_of AX2 e7
    have hzz:=M3.size
    refine ⟨d1,t1::l2,.un 13 x,_,1,pp,pq,pr,fun b=> S' b∨b=w8.heap.size,⟨e1,by omega,by simp;omega⟩,⟨rfl,hat2.one AX2 rfl,fun b hb=> ?_⟩,⟨by omega,hok⟩,?_⟩
    ·rcases hb with hb | hb
     ·have:=hin b hb;omega
     ·omega
    ·have:W 1 (toksX (.un 13 x) 6)=2+W 1 (toksX x 6):=by
      rw [toksX_no (by simp [lvlX]),toks0,W_cons]
      rfl
     omega
 ·by_cases h2:txS σ=[45]
  ·have s1:(txS σ==[33])=false:=by simpa using h1
   have s2:(txS σ==[45])=true:=by simpa using h2
   clear h1
   have h1:=h2
   clear h2
   go_enter Tryz.func171,Tryz.ntmps171
   go_upto_region 1 with fail
   have RX:Hid ((w.alloc zExO).heap[w.heap.size]? =some zExB):=Lib.hid (alloc_at rfl)
   have MW:Hid (Mod [g] w (w.alloc zExO)):=Lib.hid ((Mod.refl _ _).alloc _)
   have SW:=Lib.hid (h.next ((Below.refl _ _).alloc (Nat.le_refl _) zExO))
   have hlt:=h.lt
   obtain ⟨w1,hw1⟩: ∃W,w.alloc zExO=W:=⟨_,rfl⟩
   have hz1:w.heap.size < w1.heap.size:=by rw [← hw1];simp
   rw [hw1]at RX MW SW⊢
   clear hw1 h
   go_wp2_with fail
   refine (f_here g σ w1 SW.out).mono ?_;rintro e w2 ⟨⟨pp,pq,pr,rfl⟩,b2⟩
   replace RX:=Lib.hid (box_next RX.out b2)
   replace MW:=Lib.hid (MW.out.then (.of_below b2))
   replace SW:=Lib.hid (SW.out.next b2)
   have hz2:=b2.size
   clear b2
   go_upto_region 2 with fail
   have BX:Hid ((w2.alloc (exO 7 0 0 [] [] [] 0 (.slice none 0 0) pp pq pr)).heap[w2.heap.size]? =some (exB 7 0 0 [] [] [] 0 (.slice none 0 0) pp pq pr)):=Lib.hid (alloc_at rfl)
   replace RX:=Lib.hid (box_next RX.out (one_new (o:=exO 7 0 0 [] [] [] 0 (.slice none 0 0) pp pq pr)))
   replace MW:=Lib.hid (MW.out.alloc (exO 7 0 0 [] [] [] 0 (.slice none 0 0) pp pq pr))
   replace SW:=Lib.hid (SW.out.next (one_new (o:=exO 7 0 0 [] [] [] 0 (.slice none 0 0) pp pq pr)))
   obtain ⟨w3,hw3⟩: ∃W,w2.alloc (exO 7 0 0 [] [] [] 0 (.slice none 0 0) pp pq pr)=W:=⟨_,rfl⟩
   have hz3:w2.heap.size < w3.heap.size:=by rw [← hw3];simp
   rw [hw3]at BX RX MW SW
   rw [hw3]
   clear hw3
   go_wp2_with fail
   refine (f_text g σ w3 SW.out).mono ?_;rintro e w4 ⟨rfl,bt⟩
   replace RX:=Lib.hid (box_next RX.out bt)
   replace MW:=Lib.hid (MW.out.then (.of_below bt))
   replace SW:=Lib.hid (SW.out.next bt)
   have hzw4:=bt.size
   replace BX:=Lib.hid (box_next BX.out bt)
   clear bt
   go_wp2_with fail
   refine (f_text g σ w4 SW.out).mono ?_;rintro e w4b ⟨rfl,bt⟩
   replace RX:=Lib.hid (box_next RX.out bt)
   replace MW:=Lib.hid (MW.out.then (.of_below bt))
   replace SW:=Lib.hid (SW.out.next bt)
   have hzw4b:=bt.size
   replace BX:=Lib.hid (box_next BX.out bt)
   clear bt
   obtain ⟨⟨⟨⟨x0,x1⟩,x2,x3⟩,⟨x4,x5⟩,x6,x7⟩,⟨x8,x9⟩,x10⟩:=cells11 BX.out
   obtain ⟨⟨⟨⟨f0,f1⟩,f2,f3⟩,⟨f4,f5⟩,f6,f7⟩,⟨f8,f9⟩,f10⟩:=frozen11 BX.out
   go_upto_region 7 with fail
   clear x0 x1 x2 x3 x4 x5 x6 x7 x8 x9 x10 f0 f1 f2 f3 f4 f5 f6 f7 f8 f9 f10
   obtain ⟨w5,hw5⟩: ∃W,w4b.setCell ⟨w2.heap.size,6,none⟩ (nv 14)=W:=⟨_,rfl⟩
   have BX:Hid (w5.heap[w2.heap.size]? =some (exB 7 0 0 [] [] [] 14 (.slice none 0 0) pp pq pr)):=Lib.hid (by rw [← hw5];exact heap_set (i:=6) BX.out (nv 14))
   replace RX:Hid (w5.heap[w.heap.size]? =some zExB):=Lib.hid (by rw [← hw5,Below.heap_setCell _ _ _ _ (by simp only;omega)];exact RX.out)
   replace MW:Hid (Mod [g] w w5):=Lib.hid (by rw [← hw5];exact MW.out.trans (mod_set (g:=w2.heap.size) (i:=6) (nv 14)) (fun x hx=> .inr (by simp at hx;omega)))
   replace SW:Hid (ST w5 g σ):=Lib.hid (by rw [← hw5];exact SW.out.keep fun j hj=> Below.heap_setCell _ _ _ _ (by simp only;omega))
   have hz5:w2.heap.size < w5.heap.size:=by rw [← hw5];simp;omega
   rw [hw5]
   clear hw5
   go_wp2_with fail
   refine (f_text g σ w5 SW.out).mono ?_;rintro e w6 ⟨rfl,bt⟩
   replace RX:=Lib.hid (box_next RX.out bt)
   replace MW:=Lib.hid (MW.out.then (.of_below bt))
   replace SW:=Lib.hid (SW.out.next bt)
   have hzw6:=bt.size
   replace BX:=Lib.hid (box_next BX.out bt)
   clear bt
   rw [h1]
   go_wp2_with fail
   refine (f_open g σ [45] (by simp) w6 SW.out).mono ?_;rintro e w7 ⟨rfl,h7,m7⟩
   replace RX:=Lib.hid (m7.box RX.out (by simp;omega))
   replace BX:=Lib.hid (m7.box BX.out (by simp;omega))
   replace MW:=Lib.hid (MW.out.then m7)
   have hz7:=m7.size
   have HOP:Hid (∀d l,openS σ [45]=some (d,l)→∃d1 t,σ=some (d1,t::l)∧d=d1+1∧W 1 (t::l)=2+W 1 l∧t.2.1=[45]):=Lib.hid fun d l he=> openS_inv (by simp) he
   clear m7 SW
   cases hσ2:openS σ [45]with
   | none=>
    rw [hσ2]at h7
    have SW:=Lib.hid h7
    obtain ⟨PA,pn,pc,iv,dv,ev,pa,pb,px,py,pz,pw,hbox,hev,_⟩:=h7.box
    have he0:(ev !=0)=true:=by have:=hev.1 rfl;simpa using this
    obtain ⟨⟨⟨c0,c1⟩,c2,c3⟩,⟨⟨c4,c5⟩,c6,c7⟩,c8,c9⟩:=cells10 hbox
    clear h7 hbox hev
    go_upto_region 9 with fail
    clear c0 c1 c2 c3 c4 c5 c6 c7 c8 c9
    obtain ⟨⟨⟨⟨x0,x1⟩,x2,x3⟩,⟨x4,x5⟩,x6,x7⟩,⟨x8,x9⟩,x10⟩:=cells11 BX.out
    obtain ⟨⟨⟨⟨f0,f1⟩,f2,f3⟩,⟨f4,f5⟩,f6,f7⟩,⟨f8,f9⟩,f10⟩:=frozen11 BX.out
    obtain ⟨⟨⟨⟨z0,z1⟩,z2,z3⟩,⟨z4,z5⟩,z6,z7⟩,⟨z8,z9⟩,z10⟩:=cells11 RX.out
    obtain ⟨⟨⟨⟨v0,v1⟩,v2,v3⟩,⟨v4,v5⟩,v6,v7⟩,⟨v8,v9⟩,v10⟩:=frozen11 RX.out
    go_wp2_with fail
    clear z0 z1 z2 z3 z4 z5 z6 z7 z8 z9 z10 v0 v1 v2 v3 v4 v5 v6 v7 v8 v9 v10
    have X3:=set11_box (u0:=nv 7) (u1:=nv 0) (u2:=nv 0) (u3:=sv []) (u4:=sv []) (u5:=sv []) (u6:=nv 14) (u7:= .slice none 0 0) (u8:=nv pp) (u9:=nv pq) (u10:=nv pr) (vs:=[nv 0,nv 0,nv 0,sv [],sv [],sv [],nv 0,.slice none 0 0,nv 0,nv 0,nv 0]) RX.out rfl
    have M3:=set11_mod (w:=w7) (b:=w.heap.size) (u0:=nv 7) (u1:=nv 0) (u2:=nv 0) (u3:=sv []) (u4:=sv []) (u5:=sv []) (u6:=nv 14) (u7:= .slice none 0 0) (u8:=nv pp) (u9:=nv pq) (u10:=nv pr)
    have O3:=fun (j:Nat) (hj:j≠w.heap.size)=> set11_other (w:=w7) (u0:=nv 7) (u1:=nv 0) (u2:=nv 0) (u3:=sv []) (u4:=sv []) (u5:=sv []) (u6:=nv 14) (u7:= .slice none 0 0) (u8:=nv pp) (u9:=nv pq) (u10:=nv pr) hj
    obtain ⟨wz,hwz⟩: ∃W,set11 w7 w.heap.size (nv 7) (nv 0) (nv 0) (sv []) (sv []) (sv []) (nv 14) (.slice none 0 0) (nv pp) (nv pq) (nv pr)=W:=⟨_,rfl⟩
    rw [hwz]at X3 M3 O3
    unfold set11 at hwz
    rw [hwz]
    clear hwz
    obtain ⟨⟨⟨⟨y0,y1⟩,y2,y3⟩,⟨y4,y5⟩,y6,y7⟩,⟨y8,y9⟩,y10⟩:=cells11 X3
    refine bodyPost_ret (v:=exVal 7 0 0 [] [] [] 14 (.slice none 0 0) pp pq pr) (by simp [results,Tryz.results171,go_sem,y0,y1,y2,y3,y4,y5,y6,y7,y8,y9,y10]) rfl ?_
    exact ⟨_,none,rfl,⟨7,0,0,[],[],[],14,none,0,0,pp,pq,pr,rfl⟩,SW.out.keep (fun j hj=> O3 j (by omega)),MW.out.trans M3 (fun x hx=> .inr (by simp at hx;omega)),trivial⟩
   | some y=>
    obtain ⟨d2,l2⟩:=y
    rw [hσ2]at h7
    have SW:=Lib.hid h7
    obtain ⟨PA,pn,pc,iv,dv0,ev,pa,pb,px,py,pz,pw,hbox,hev,hdec0⟩:=h7.box
    clear hdec0
    obtain rfl:ev=0:=hev.2 (by simp)
    obtain ⟨⟨⟨c0,c1⟩,c2,c3⟩,⟨⟨c4,c5⟩,c6,c7⟩,c8,c9⟩:=cells10 hbox
    clear h7 hbox hev
    obtain ⟨d1,t1,e1,e2,hw1,_⟩:=HOP.out d2 l2 hσ2
    go_wp2_with fail
    clear c0 c1 c2 c3 c4 c5 c6 c7 c8 c9
    refine (HU.out (some (d2,l2)) w7 g SW.out (by subst e1;simp [lenS]at hm⊢;omega)).mono ?_;rintro e w8 ⟨V,σ3,rfl,⟨k,vk,vn,vs,nm,cc,o,A,m,c,p,q,r,rfl⟩,h8,m8,hx⟩
    have HX:=Lib.hid hx
    replace RX:=Lib.hid (m8.box RX.out (by simp;omega))
    replace BX:=Lib.hid (m8.box BX.out (by simp;omega))
    replace MW:=Lib.hid (MW.out.then m8)
    replace SW:=Lib.hid h8
    have hz8:=m8.size
    have HD3:Hid (∀d l,σ3=some (d,l)→1≤d):=Lib.hid fun d l e3=> by
     have hq:=HX.out
     rw [e3]at hq
     obtain ⟨d',l',x,A',c',p',q',z',S',⟨e4,e5,_⟩,_⟩:=hq
     injection e4 with e4
     injection e4 with e4 _
     omega
    clear hx h8 m8
    obtain ⟨wa,hwa⟩: ∃W,w8.alloc (exO k vk vn vs nm cc o (.slice A m c) p q r)=W:=⟨_,rfl⟩
    have AX:Hid (wa.heap[w8.heap.size]? =some (exB k vk vn vs nm cc o (.slice A m c) p q r)):=Lib.hid (by rw [← hwa];exact alloc_at rfl)
    have KA:Hid (Below w8.heap.size w8 wa):=Lib.hid (by rw [← hwa];exact one_new)
    have hza:w8.heap.size < wa.heap.size:=by rw [← hwa];simp
    replace RX:=Lib.hid (box_next RX.out KA.out)
    replace BX:=Lib.hid (box_next BX.out KA.out)
    replace MW:=Lib.hid (MW.out.then (.of_below KA.out))
    replace SW:=Lib.hid (SW.out.next KA.out)
    have HWA:=Lib.hid hwa
    obtain ⟨⟨⟨⟨x0,x1⟩,x2,x3⟩,⟨x4,x5⟩,x6,x7⟩,⟨x8,x9⟩,x10⟩:=cells11 BX.out
    obtain ⟨⟨⟨⟨f0,f1⟩,f2,f3⟩,⟨f4,f5⟩,f6,f7⟩,⟨f8,f9⟩,f10⟩:=frozen11 BX.out
    rw [← hwa]at x0 x1 x2 x3 x4 x5 x6 x7 x8 x9 x10 f0 f1 f2 f3 f4 f5 f6 f7 f8 f9 f10
    clear hwa
    go_upto_region 11 with fail
    clear x0 x1 x2 x3 x4 x5 x6 x7 x8 x9 x10 f0 f1 f2 f3 f4 f5 f6 f7 f8 f9 f10
    rw [HWA.out]
    obtain ⟨w9,hw9⟩: ∃W,wa.setCell ⟨w2.heap.size,7,none⟩ (.slice (some ⟨w8.heap.size,0,none⟩) 1 1)=W:=⟨_,rfl⟩
    have K9:Hid (∀b,b≠w2.heap.size→w9.heap[b]? =wa.heap[b]?):=Lib.hid fun b hb=> by rw [← hw9];exact Below.heap_setCell _ _ _ _ hb
    have BX9:Hid (w9.heap[w2.heap.size]? =some (exB 7 0 0 [] [] [] 14 (.slice (some ⟨w8.heap.size,0,none⟩) 1 1) pp pq pr)):=Lib.hid (by rw [← hw9];exact heap_set (i:=7) BX.out (.slice (some ⟨w8.heap.size,0,none⟩) 1 1))
    have M9:Mod [g] w w9:=by rw [← hw9];exact MW.out.trans (mod_set (g:=w2.heap.size) (i:=7) _) (fun x hx=> .inr (by simp at hx;omega))
    have hz9:w9.heap.size=wa.heap.size:=by rw [← hw9];simp
    rw [hw9]
    clear hw9 BX
    replace AX:=Lib.hid ((K9.out _ (by omega)).trans AX.out)
    replace RX:=Lib.hid ((K9.out _ (by omega)).trans RX.out)
    replace SW:=Lib.hid (SW.out.keep fun j hj=> K9.out j (by omega))
    replace MW:=Lib.hid M9
    clear M9
    obtain ⟨QA,qn,qc,iv,dv,ev2,qa,qb,qx,qy,qz,qw,hbox,_,hdec⟩:=SW.out.box
    have hdec2:=Lib.hid (hdec HD3.out)
    obtain ⟨⟨⟨c0,c1⟩,c2,c3⟩,⟨⟨c4,c5⟩,c6,c7⟩,c8,c9⟩:=cells10 hbox
    obtain ⟨⟨⟨g0,g1⟩,g2,g3⟩,⟨⟨g4,g5⟩,g6,g7⟩,g8,g9⟩:=frozen10 hbox
    clear hbox hdec
    go_upto_region 12 with fail
    clear c0 c1 c2 c3 c4 c5 c6 c7 c8 c9 g0 g1 g2 g3 g4 g5 g6 g7 g8 g9
    obtain ⟨w10,hw10⟩: ∃W,w9.setCell ⟨g,2,none⟩ (nv (wrap64 (dv - 1)))=W:=⟨_,rfl⟩
    have K10:Hid (∀b,b≠g→w10.heap[b]? =w9.heap[b]?):=Lib.hid fun b hb=> by rw [← hw10];exact Below.heap_setCell _ _ _ _ hb
    have hz10:w10.heap.size=w9.heap.size:=by rw [← hw10];simp
    replace MW:Hid (Mod [g] w w10):=Lib.hid (by rw [← hw10];exact MW.out.then (mod_set (g:=g) (i:=2) _))
    rw [hw10]at hdec2
    rw [hw10]
    clear hw10 SW
    replace AX:=Lib.hid ((K10.out _ (by omega)).trans AX.out)
    replace RX:=Lib.hid ((K10.out _ (by omega)).trans RX.out)
    have BX:=Lib.hid ((K10.out _ (by omega)).trans BX9.out)
    obtain ⟨⟨⟨⟨x0,x1⟩,x2,x3⟩,⟨x4,x5⟩,x6,x7⟩,⟨x8,x9⟩,x10⟩:=cells11 BX.out
    obtain ⟨⟨⟨⟨f0,f1⟩,f2,f3⟩,⟨f4,f5⟩,f6,f7⟩,⟨f8,f9⟩,f10⟩:=frozen11 BX.out
    obtain ⟨⟨⟨⟨z0,z1⟩,z2,z3⟩,⟨z4,z5⟩,z6,z7⟩,⟨z8,z9⟩,z10⟩:=cells11 RX.out
    obtain ⟨⟨⟨⟨v0,v1⟩,v2,v3⟩,⟨v4,v5⟩,v6,v7⟩,⟨v8,v9⟩,v10⟩:=frozen11 RX.out
    go_wp2_with fail
    clear z0 z1 z2 z3 z4 z5 z6 z7 z8 z9 z10 v0 v1 v2 v3 v4 v5 v6 v7 v8 v9 v10
    have X3:=set11_box (u0:=nv 7) (u1:=nv 0) (u2:=nv 0) (u3:=sv []) (u4:=sv []) (u5:=sv []) (u6:=nv 14) (u7:= .slice (some ⟨w8.heap.size,0,none⟩) 1 1) (u8:=nv pp) (u9:=nv pq) (u10:=nv pr) (vs:=[nv 0,nv 0,nv 0,sv [],sv [],sv [],nv 0,.slice none 0 0,nv 0,nv 0,nv 0]) RX.out rfl
    have M3:=set11_mod (w:=w10) (b:=w.heap.size) (u0:=nv 7) (u1:=nv 0) (u2:=nv 0) (u3:=sv []) (u4:=sv []) (u5:=sv []) (u6:=nv 14) (u7:= .slice (some ⟨w8.heap.size,0,none⟩) 1 1) (u8:=nv pp) (u9:=nv pq) (u10:=nv pr)
    have O3:=fun (j:Nat) (hj:j≠w.heap.size)=> set11_other (w:=w10) (u0:=nv 7) (u1:=nv 0) (u2:=nv 0) (u3:=sv []) (u4:=sv []) (u5:=sv []) (u6:=nv 14) (u7:= .slice (some ⟨w8.heap.size,0,none⟩) 1 1) (u8:=nv pp) (u9:=nv pq) (u10:=nv pr) hj
    obtain ⟨wz,hwz⟩: ∃W,set11 w10 w.heap.size (nv 7) (nv 0) (nv 0) (sv []) (sv []) (sv []) (nv 14) (.slice (some ⟨w8.heap.size,0,none⟩) 1 1) (nv pp) (nv pq) (nv pr)=W:=⟨_,rfl⟩
    rw [hwz]at X3 M3 O3
    unfold set11 at hwz
    rw [hwz]
    clear hwz
    obtain ⟨⟨⟨⟨y0,y1⟩,y2,y3⟩,⟨y4,y5⟩,y6,y7⟩,⟨y8,y9⟩,y10⟩:=cells11 X3
    refine bodyPost_ret (v:=exVal 7 0 0 [] [] [] 14 (.slice (some ⟨w8.heap.size,0,none⟩) 1 1) pp pq pr) (by simp [results,Tryz.results171,go_sem,y0,y1,y2,y3,y4,y5,y6,y7,y8,y9,y10]) rfl ?_
    refine ⟨_,decS σ3,rfl,⟨7,0,0,[],[],[],14,_,1,1,pp,pq,pr,rfl⟩,hdec2.out.keep (fun j hj=> O3 j (by omega)),MW.out.trans M3 (fun x hx=> .inr (by simp at hx;omega)),?_⟩
    cases σ3 with
    | none=> trivial
    | some y=>
     obtain ⟨d',r'⟩:=y
     obtain ⟨d,l,x,A',c',p',q',z',S',⟨e5,e6,hl⟩,⟨e7,hat,hin⟩,hok,hW⟩:=HX.out
     injection e5 with e5
     injection e5 with e8 e9
     subst e8 e9
     have hkz: ∀b,b < w8.heap.size→b≠g→b≠w2.heap.size→b≠w.heap.size→wz.heap[b]? =w8.heap[b]? :=fun b h1 h2 h3 h4=> (O3 b h4).trans ((K10.out b h2).trans ((K9.out b h3).trans (KA.out.block b h1)))
     have hat2:=hat.keep (w':=wz) fun b hb=> hkz b (hin b hb).2 (by have:=(hin b hb).1;omega) (by have:=(hin b hb).1;omega) (by have:=(hin b hb).1;omega)
     have AX2:=(O3 w8.heap.size (by omega)).trans AX.out
     replace AX2:=exB_of AX2 e7
     have hzz:=M3.size
     refine ⟨d1,t1::l2,.un 14 x,_,1,pp,pq,pr,fun b=> S' b∨b=w8.heap.size,⟨e1,by omega,by simp;omega⟩,⟨rfl,hat2.one AX2 rfl,fun b hb=> ?_⟩,⟨by omega,hok⟩,?_⟩
     ·rcases hb with hb | hb
      ·have:=hin b hb;omega
      ·omega
     ·have:W 1 (toksX (.un 14 x) 6)=2+W 1 (toksX x 6):=by
       rw [toksX_no (by simp [lvlX]),toks0,W_cons]
       rfl
      omega
  ·have s1:(txS σ==[33])=false:=by simpa using h1
   have s2:(txS σ==[45])=false:=by simpa using h2
   go_enter Tryz.func171,Tryz.ntmps171
   go_upto_region 1 with fail
   have RX:Hid ((w.alloc zExO).heap[w.heap.size]? =some zExB):=Lib.hid (alloc_at rfl)
   have MW:Hid (Mod [g] w (w.alloc zExO)):=Lib.hid ((Mod.refl _ _).alloc _)
   have SW:=Lib.hid (h.next ((Below.refl _ _).alloc (Nat.le_refl _) zExO))
   have hlt:=h.lt
   obtain ⟨w1,hw1⟩: ∃W,w.alloc zExO=W:=⟨_,rfl⟩
   have hz1:w.heap.size < w1.heap.size:=by rw [← hw1];simp
   rw [hw1]at RX MW SW⊢
   clear hw1 h
   go_wp2_with fail
   refine (f_here g σ w1 SW.out).mono ?_;rintro e w2 ⟨⟨pp,pq,pr,rfl⟩,b2⟩
   replace RX:=Lib.hid (box_next RX.out b2)
   replace MW:=Lib.hid (MW.out.then (.of_below b2))
   replace SW:=Lib.hid (SW.out.next b2)
   have hz2:=b2.size
   clear b2
   go_upto_region 2 with fail
   have BX:Hid ((w2.alloc (exO 7 0 0 [] [] [] 0 (.slice none 0 0) pp pq pr)).heap[w2.heap.size]? =some (exB 7 0 0 [] [] [] 0 (.slice none 0 0) pp pq pr)):=Lib.hid (alloc_at rfl)
   replace RX:=Lib.hid (box_next RX.out (one_new (o:=exO 7 0 0 [] [] [] 0 (.slice none 0 0) pp pq pr)))
   replace MW:=Lib.hid (MW.out.alloc (exO 7 0 0 [] [] [] 0 (.slice none 0 0) pp pq pr))
   replace SW:=Lib.hid (SW.out.next (one_new (o:=exO 7 0 0 [] [] [] 0 (.slice none 0 0) pp pq pr)))
   obtain ⟨w3,hw3⟩: ∃W,w2.alloc (exO 7 0 0 [] [] [] 0 (.slice none 0 0) pp pq pr)=W:=⟨_,rfl⟩
   have hz3:w2.heap.size < w3.heap.size:=by rw [← hw3];simp
   rw [hw3]at BX RX MW SW
   rw [hw3]
   clear hw3
   clear h1 h2
   go_wp2_with fail
   refine (f_text g σ w3 SW.out).mono ?_;rintro e w4 ⟨rfl,b4⟩
   replace RX:=Lib.hid (box_next RX.out b4)
   replace MW:=Lib.hid (MW.out.then (.of_below b4))
   replace SW:=Lib.hid (SW.out.next b4)
   have hz4:=b4.size
   clear b4 BX
   go_wp2_with fail
   refine (f_text g σ w4 SW.out).mono ?_;rintro e w5 ⟨rfl,b5⟩
   replace RX:=Lib.hid (box_next RX.out b5)
   replace MW:=Lib.hid (MW.out.then (.of_below b5))
   replace SW:=Lib.hid (SW.out.next b5)
   have hz5:=b5.size
   clear b5
   go_wp2_with fail
   refine (HO.out σ w5 g SW.out (by omega)).mono ?_;rintro e w6 ⟨V,σ3,rfl,⟨k,vk,vn,vs,nm,cc,o,A,m,c,p,q,r,rfl⟩,h3,m3,hx⟩
   have HX:=Lib.hid hx
   replace RX:=Lib.hid (m3.box RX.out (by simp;omega))
   replace MW:=Lib.hid (MW.out.then m3)
   replace SW:=Lib.hid h3
   have hz6:=m3.size
   clear hx h3 m3
   obtain ⟨⟨⟨⟨z0,z1⟩,z2,z3⟩,⟨z4,z5⟩,z6,z7⟩,⟨z8,z9⟩,z10⟩:=cells11 RX.out
   obtain ⟨⟨⟨⟨v0,v1⟩,v2,v3⟩,⟨v4,v5⟩,v6,v7⟩,⟨v8,v9⟩,v10⟩:=frozen11 RX.out
   go_wp2_with fail
   clear z0 z1 z2 z3 z4 z5 z6 z7 z8 z9 z10 v0 v1 v2 v3 v4 v5 v6 v7 v8 v9 v10
   have X3:=set11_box (u0:=nv k) (u1:=nv vk) (u2:=nv vn) (u3:=sv vs) (u4:=sv nm) (u5:=sv cc) (u6:=nv o) (u7:= .slice A m c) (u8:=nv p) (u9:=nv q) (u10:=nv r) (vs:=[nv 0,nv 0,nv 0,sv [],sv [],sv [],nv 0,.slice none 0 0,nv 0,nv 0,nv 0]) RX.out rfl
   have M3:=set11_mod (w:=w6) (b:=w.heap.size) (u0:=nv k) (u1:=nv vk) (u2:=nv vn) (u3:=sv vs) (u4:=sv nm) (u5:=sv cc) (u6:=nv o) (u7:= .slice A m c) (u8:=nv p) (u9:=nv q) (u10:=nv r)
   have O3:=fun (j:Nat) (hj:j≠w.heap.size)=> set11_other (w:=w6) (u0:=nv k) (u1:=nv vk) (u2:=nv vn) (u3:=sv vs) (u4:=sv nm) (u5:=sv cc) (u6:=nv o) (u7:= .slice A m c) (u8:=nv p) (u9:=nv q) (u10:=nv r) hj
   obtain ⟨wz,hwz⟩: ∃W,set11 w6 w.heap.size (nv k) (nv vk) (nv vn) (sv vs) (sv nm) (sv cc) (nv o) (.slice A m c) (nv p) (nv q) (nv r)=W:=⟨_,rfl⟩
   rw [hwz]at X3 M3 O3
   unfold set11 at hwz
   rw [hwz]
   clear hwz
   obtain ⟨⟨⟨⟨y0,y1⟩,y2,y3⟩,⟨y4,y5⟩,y6,y7⟩,⟨y8,y9⟩,y10⟩:=cells11 X3
   refine bodyPost_ret (v:=exVal k vk vn vs nm cc o (.slice A m c) p q r) (by simp [results,Tryz.results171,go_sem,y0,y1,y2,y3,y4,y5,y6,y7,y8,y9,y10]) rfl ?_
   refine ⟨_,_,rfl,⟨k,vk,vn,vs,nm,cc,o,A,m,c,p,q,r,rfl⟩,SW.out.keep (fun j hj=> O3 j (by omega)),MW.out.trans M3 (fun x hx=> .inr (by simp at hx;omega)),?_⟩
   cases σ3 with
   | none=> trivial
   | some y=>
    obtain ⟨d',r'⟩:=y
    obtain ⟨d,l,x,A',c',p',q',z',S',⟨e5,e6,hl⟩,⟨e7,hat,hin⟩,hok,hW⟩:=HX.out
    refine ⟨d,l,x,A',c',p',q',z',S',⟨e5,e6,hl⟩,⟨e7,hat.keep fun b hb=> O3 b (by have:=(hin b hb).1;omega),fun b hb=> ⟨by have:=(hin b hb).1;omega,by have:=M3.size;have:=(hin b hb).2;omega⟩⟩,hok,?_⟩
    have:=W_br_mono (e:=1) x (show 6≤7 by omega) (toks0 x)
    simp only [toksX]at hW this⊢
    omega
end Go.Proofs.YtnbmpfdffoidaaaGreatDoor.Y
