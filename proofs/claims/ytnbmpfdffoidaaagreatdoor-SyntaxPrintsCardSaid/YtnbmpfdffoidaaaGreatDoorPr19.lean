/- Texts of the proof, joined: LexRefO2, LexRefA, SynTok. -/
import Derived.Test.YtnbmpfdffoidaaaGreatDoorPr03
import Derived.Test.YtnbmpfdffoidaaaGreatDoorPr04
import Derived.Test.YtnbmpfdffoidaaaGreatDoorPr18
set_option linter.unusedVariables false
set_option linter.unusedSimpArgs false
set_option maxHeartbeats 8000000
set_option maxRecDepth 100000
namespace Go.Proofs.YtnbmpfdffoidaaaGreatDoor.X
open Go.RowKit O V S
theorem rone_dig (s:List UInt8)(i:Nat)(w:World)(hs:s.length≤20000)(hin:i < s.length)(h1:smallC (s[i])=false)(h2:digitC (s[i])=true):Calls Tryz.prog 61 #[.string ⟨s.toArray⟩,.int .i64 (i:Int)] w fun e w'=> RetO (tokL (s.drop i)) (s.drop i) i e∧Below w.heap.size w w':=by
 have hsz:(ByteArray.mk s.toArray).size=s.length:=by simp [ByteArray.size]
 obtain ⟨c,hc⟩: ∃c,s[i]=c:=⟨_,rfl⟩
 have hx:=ba_at s i hin hc
 have HD:Hid (s.drop i=c::s.drop (i+1)):=Lib.hid (by rw [List.drop_eq_getElem_cons hin,hc])
 have hdl:(s.drop i).length=s.length - i:=by simp
 rw [hc]at h1 h2
 clear hc
 have hk:kindN c=2:=by unfold kindN;rw [if_neg (by simp [h1]),if_pos h2]
 have HT:Hid (tokL (s.drop i)=if numOk ((s.drop i).take (runLen digitC (s.drop i)))=true then ⟨0,0,2,runLen digitC (s.drop i),⟨1,(numV ((s.drop i).take (runLen digitC (s.drop i))):Nat),[]⟩⟩else ⟨11,0,2,0,zeroV⟩):=Lib.hid (by rw [HD.out,tokL_cons,if_neg (by simp [h1]),if_pos h2])
 have hw1:Hid (((s.drop i).take 1).all digitC=true):=Lib.hid (by rw [HD.out];simp [h2])
 clear h1 h2
 go_enter Tryz.func61,Tryz.ntmps61
 go_wp2_with fail
 refine (rkind_any c _).mono ?_;rintro e w1 ⟨rfl,rfl⟩
 rw [hk]
 clear hk
 go_wp2_with fail
 generalize hW0:((w.alloc (.cells #[.int .i64 0,.string ⟨#[]⟩,.int .i64 0,.int .i64 0,.string ⟨#[]⟩,.int .i64 0,.int .i64 0,.int .i64 0] 101)).alloc (.cells #[.int .i64 0,.string ⟨#[]⟩,.int .i64 0,.int .i64 0,.string ⟨#[]⟩,.int .i64 0,.int .i64 0,.int .i64 0] 101))=W0 at *
 have hO:OB w W0:=by rw [← hW0];exact OB.start w
 have HO:=Lib.hid hO
 clear hW0 hO
 go_loop [8] (fun v=> ∃m:Nat,1≤m∧i+m≤s.length∧v= .int .i64 ((i+m:Nat):Int)∧Hid (((s.drop i).take m).all digitC=true)) (fun v=> s.length - (intOf v).toNat)
 case atStart=> exact ⟨1,by omega,by omega,rfl,hw1⟩
 case round=>
  obtain ⟨m,hm1,hml,rfl,H⟩:=hrel
  obtain ⟨x0,x1,x2,x3,x4,x5,x6,x7⟩:=cells8 HO.out.t
  obtain ⟨f0,f1,f2,f3,f4,f5,f6,f7⟩:=frozen8 HO.out.t
  obtain ⟨z0,z1,z2,z3,z4,z5,z6,z7⟩:=cells8 HO.out.z
  obtain ⟨y0,y1,y2,y3,y4,y5,y6,y7⟩:=frozen8 HO.out.z
  obtain ⟨k,hk⟩: ∃k,i+m=k:=⟨_,rfl⟩
  have HK:=Lib.hid hk
  rw [hk]
  rw [hk]at hml
  by_cases hlt:k < s.length
  ·have hlt':m < (s.drop i).length:=by omega
   have hst:=Lib.hid (all_snoc (p:=digitC) hlt' H.out)
   have hno:=Lib.hid (run_step (p:=digitC) hlt' H.out)
   obtain ⟨d,hd⟩: ∃d,(s.drop i)[m]=d:=⟨_,rfl⟩
   rw [hd]at hst hno
   rw [List.getElem_drop]at hd
   have hx2:=ba_at s k hlt (by simpa only [hk]using hd)
   have hki:(k:Int) < (s.length:Int):=by omega
   clear hd hk
   cases hp:digitC d
   ·have hrl:runLen digitC (s.drop i)=m:=hno.out.trans (if_neg (by simp [hp]))
    have g0:((kindN d:Int)==2)=false:=by rw [kind2]at hp;simp at hp;simp;omega
    clear hp hno hst hlt'
    have HRL:=Lib.hid hrl
    have hcut:=cut_at s i m k (by have:=HK.out;omega)
    have i1:(i:Int)≤(k:Int):=by have:=HK.out;omega
    have i2:(k:Int)≤(s.length:Int):=by have:=HK.out;omega
    have i3:i≤k:=by have:=HK.out;omega
    have hdd:((s.drop i).take m).all digitC=true:=by
     have:=H.out;exact this
    have hlm:((s.drop i).take m).length=m:=by rw [List.length_take];have:=HK.out;omega
    have HPR:=Lib.hid (parseR_dig ((s.drop i).take m) (by omega) hdd)
    have HTM:=Lib.hid HT.out
    rw [HRL.out]at HTM
    obtain ⟨D,hD⟩: ∃D,(s.drop i).take m=D:=⟨_,rfl⟩
    rw [hD]at hcut hlm HPR HTM
    have HDD:=Lib.hid hD
    clear hdd hrl hD H
    go_wp2_with fail
    refine (rkind_any d _).mono ?_;rintro e w1 ⟨rfl,rfl⟩
    go_wp2_with fail
    refine (rparse_any D _ (by have:=HK.out;omega)).mono ?_;rintro e w2 ⟨u,rfl,hu,b2⟩
    have HO2:=Lib.hid (HO.out.next b2)
    clear x0 x1 x2 x3 x4 x5 x6 x7 f0 f1 f2 f3 f4 f5 f6 f7 z0 z1 z2 z3 z4 z5 z6 z7 y0 y1 y2 y3 y4 y5 y6 y7
    unfold vv
    cases hok:numOk D
    ·have HR:Hid (tokL (s.drop i)=⟨11,0,2,0,zeroV⟩):=Lib.hid (by rw [HTM.out,hok];rfl)
     have hS:(parseR D).isSome=false:=by rw [HPR.out,hok];rfl
     rw [hS]
     have HO3:=Lib.hid (HO2.out.next ((Below.refl _ _).alloc (Nat.le_refl _) (.cells #[.int .i64 u.k,.int .i64 u.n,.string ⟨u.s.toArray⟩] 57)))
     obtain ⟨x0,x1,x2,x3,x4,x5,x6,x7⟩:=cells8 HO3.out.t
     obtain ⟨f0,f1,f2,f3,f4,f5,f6,f7⟩:=frozen8 HO3.out.t
     obtain ⟨z0,z1,z2,z3,z4,z5,z6,z7⟩:=cells8 HO3.out.z
     obtain ⟨y0,y1,y2,y3,y4,y5,y6,y7⟩:=frozen8 HO3.out.z
     clear hS hu hok
     go_wp2_with fail
     refine bodyPost_ret (v:= .tuple #[.agg (tk0 0 [] zeroV).toArray,.int .i64 11,.int .i64 (i:Int)]) (by simp [results,Tryz.results61,go_sem,tk0,zeroV,z0,z1,z2,z3,z4,z5,z6,z7]) rfl ?_
     refine ⟨⟨0,[],zeroV,?_,fun h=> ?_⟩,?_⟩
     ·rw [HR.out];rfl
     ·rw [HR.out]at h;exact absurd (show (11:Int)=0 from h) (by decide)
     ·have:=HO3.out.b
      repeat (first | (with_reducible exact Below.refl _ _) | (with_reducible assumption) | refine Below.setCell ?_ (by simp <;> omega) _ | refine Below.alloc ?_ (by simp <;> omega) _ | refine Below.drew ?_)
    ·have HR:Hid (tokL (s.drop i)=⟨0,0,2,m,⟨1,(numV D:Nat),[]⟩⟩):=Lib.hid (by rw [HTM.out,hok];rfl)
     have hS:(parseR D).isSome=true:=by rw [HPR.out,hok];rfl
     have hue:=hu _ (by rw [HPR.out,hok];rfl)
     subst hue
     rw [hS]
     obtain ⟨N,hN⟩: ∃N:Int,((numV D:Nat):Int)=N:=⟨_,rfl⟩
     rw [hN]at HR
     rw [hN]
     have HO3:=Lib.hid (HO2.out.next ((Below.refl _ _).alloc (Nat.le_refl _) (.cells #[.int .i64 1,.int .i64 N,.string ⟨#[]⟩] 57)))
     have hX3:(w2.alloc (.cells #[.int .i64 1,.int .i64 N,.string ⟨#[]⟩] 57)).heap[w2.heap.size]? =some (.cells #[.int .i64 1,.int .i64 N,.string ⟨#[]⟩] 57 (0,0)):=heap_alloc_new _ _
     have hne1:w2.heap.size≠w.heap.size+1:=by have:=(Array.getElem?_eq_some_iff.1 HO2.out.t).1;omega
     obtain ⟨v0,v1,v2⟩:=cells3p hX3
     obtain ⟨x0,x1,x2,x3,x4,x5,x6,x7⟩:=cells8 HO3.out.t
     obtain ⟨f0,f1,f2,f3,f4,f5,f6,f7⟩:=frozen8 HO3.out.t
     obtain ⟨z0,z1,z2,z3,z4,z5,z6,z7⟩:=cells8 HO3.out.z
     obtain ⟨y0,y1,y2,y3,y4,y5,y6,y7⟩:=frozen8 HO3.out.z
     clear hS hu hok
     go_wp2_with fail
     refine bodyPost_ret (v:= .tuple #[.agg (tk0 2 ((s.drop i).take m) ⟨1,N,[]⟩).toArray,.int .i64 0,.int .i64 0]) (by simp [results,Tryz.results61,go_sem,tk0,HDD.out,z0,z1,z2,z3,z4,z5,z6,z7]) rfl ?_
     refine ⟨⟨2,(s.drop i).take m,⟨1,N,[]⟩,?_,fun h=> ?_⟩,?_⟩
     ·rw [HR.out];rfl
     ·rw [HR.out];exact ⟨rfl,rfl,rfl⟩
     ·have:=HO3.out.b
      repeat (first | (with_reducible exact Below.refl _ _) | (with_reducible assumption) | refine Below.setCell ?_ (by simp <;> omega) _ | refine Below.alloc ?_ (by simp <;> omega) _ | refine Below.drew ?_)
   ·have g0:((kindN d:Int)==2)=true:=by rw [kind2]at hp;simp at hp;simp;omega
    have hst':=Lib.hid (hst.out hp)
    clear hp
    go_wp2_with fail
    refine (rkind_any d _).mono ?_;rintro e w1 ⟨rfl,rfl⟩
    go_wp2_with fail
    go_round
    case rel=> exact ⟨m+1,by omega,by have:=HK.out;omega,congrArg (Value.int .i64) (by have:=HK.out;omega),hst'⟩
    case measure=> simp [intOf];omega
  ·have hrl:runLen digitC (s.drop i)=m:=by
    have h1:=H.out
    rw [List.take_of_length_le (by omega)]at h1
    rw [run_all h1];omega
   have hki: ¬(k:Int) < (s.length:Int):=by omega
   clear hk
   have HRL:=Lib.hid hrl
   have hcut:=cut_at s i m k (by have:=HK.out;omega)
   have i1:(i:Int)≤(k:Int):=by have:=HK.out;omega
   have i2:(k:Int)≤(s.length:Int):=by have:=HK.out;omega
   have i3:i≤k:=by have:=HK.out;omega
   have hdd:((s.drop i).take m).all digitC=true:=by
    have:=H.out;exact this
   have hlm:((s.drop i).take m).length=m:=by rw [List.length_take];have:=HK.out;omega
   have HPR:=Lib.hid (parseR_dig ((s.drop i).take m) (by omega) hdd)
   have HTM:=Lib.hid HT.out
   rw [HRL.out]at HTM
   obtain ⟨D,hD⟩: ∃D,(s.drop i).take m=D:=⟨_,rfl⟩
   rw [hD]at hcut hlm HPR HTM
   have HDD:=Lib.hid hD
   clear hdd hrl hD H
   go_wp2_with fail
   refine (rparse_any D _ (by have:=HK.out;omega)).mono ?_;rintro e w2 ⟨u,rfl,hu,b2⟩
   have HO2:=Lib.hid (HO.out.next b2)
   clear x0 x1 x2 x3 x4 x5 x6 x7 f0 f1 f2 f3 f4 f5 f6 f7 z0 z1 z2 z3 z4 z5 z6 z7 y0 y1 y2 y3 y4 y5 y6 y7
   unfold vv
   cases hok:numOk D
   ·have HR:Hid (tokL (s.drop i)=⟨11,0,2,0,zeroV⟩):=Lib.hid (by rw [HTM.out,hok];rfl)
    have hS:(parseR D).isSome=false:=by rw [HPR.out,hok];rfl
    rw [hS]
    have HO3:=Lib.hid (HO2.out.next ((Below.refl _ _).alloc (Nat.le_refl _) (.cells #[.int .i64 u.k,.int .i64 u.n,.string ⟨u.s.toArray⟩] 57)))
    obtain ⟨x0,x1,x2,x3,x4,x5,x6,x7⟩:=cells8 HO3.out.t
    obtain ⟨f0,f1,f2,f3,f4,f5,f6,f7⟩:=frozen8 HO3.out.t
    obtain ⟨z0,z1,z2,z3,z4,z5,z6,z7⟩:=cells8 HO3.out.z
    obtain ⟨y0,y1,y2,y3,y4,y5,y6,y7⟩:=frozen8 HO3.out.z
    clear hS hu hok
    go_wp2_with fail
    refine bodyPost_ret (v:= .tuple #[.agg (tk0 0 [] zeroV).toArray,.int .i64 11,.int .i64 (i:Int)]) (by simp [results,Tryz.results61,go_sem,tk0,zeroV,z0,z1,z2,z3,z4,z5,z6,z7]) rfl ?_
    refine ⟨⟨0,[],zeroV,?_,fun h=> ?_⟩,?_⟩
    ·rw [HR.out];rfl
    ·rw [HR.out]at h;exact absurd (show (11:Int)=0 from h) (by decide)
    ·have:=HO3.out.b
     repeat (first | (with_reducible exact Below.refl _ _) | (with_reducible assumption) | refine Below.setCell ?_ (by simp <;> omega) _ | refine Below.alloc ?_ (by simp <;> omega) _ | refine Below.drew ?_)
   ·have HR:Hid (tokL (s.drop i)=⟨0,0,2,m,⟨1,(numV D:Nat),[]⟩⟩):=Lib.hid (by rw [HTM.out,hok];rfl)
    have hS:(parseR D).isSome=true:=by rw [HPR.out,hok];rfl
    have hue:=hu _ (by rw [HPR.out,hok];rfl)
    subst hue
    rw [hS]
    obtain ⟨N,hN⟩: ∃N:Int,((numV D:Nat):Int)=N:=⟨_,rfl⟩
    rw [hN]at HR
    rw [hN]
    have HO3:=Lib.hid (HO2.out.next ((Below.refl _ _).alloc (Nat.le_refl _) (.cells #[.int .i64 1,.int .i64 N,.string ⟨#[]⟩] 57)))
    have hX3:(w2.alloc (.cells #[.int .i64 1,.int .i64 N,.string ⟨#[]⟩] 57)).heap[w2.heap.size]? =some (.cells #[.int .i64 1,.int .i64 N,.string ⟨#[]⟩] 57 (0,0)):=heap_alloc_new _ _
    have hne1:w2.heap.size≠w.heap.size+1:=by have:=(Array.getElem?_eq_some_iff.1 HO2.out.t).1;omega
    obtain ⟨v0,v1,v2⟩:=cells3p hX3
    obtain ⟨x0,x1,x2,x3,x4,x5,x6,x7⟩:=cells8 HO3.out.t
    obtain ⟨f0,f1,f2,f3,f4,f5,f6,f7⟩:=frozen8 HO3.out.t
    obtain ⟨z0,z1,z2,z3,z4,z5,z6,z7⟩:=cells8 HO3.out.z
    obtain ⟨y0,y1,y2,y3,y4,y5,y6,y7⟩:=frozen8 HO3.out.z
    clear hS hu hok
    go_wp2_with fail
    refine bodyPost_ret (v:= .tuple #[.agg (tk0 2 ((s.drop i).take m) ⟨1,N,[]⟩).toArray,.int .i64 0,.int .i64 0]) (by simp [results,Tryz.results61,go_sem,tk0,HDD.out,z0,z1,z2,z3,z4,z5,z6,z7]) rfl ?_
    refine ⟨⟨2,(s.drop i).take m,⟨1,N,[]⟩,?_,fun h=> ?_⟩,?_⟩
    ·rw [HR.out];rfl
    ·rw [HR.out];exact ⟨rfl,rfl,rfl⟩
    ·have:=HO3.out.b
     repeat (first | (with_reducible exact Below.refl _ _) | (with_reducible assumption) | refine Below.setCell ?_ (by simp <;> omega) _ | refine Below.alloc ?_ (by simp <;> omega) _ | refine Below.drew ?_)
theorem rone_quo (s:List UInt8)(i:Nat)(w:World)(hs:s.length≤20000)(hin:i < s.length)(h1:smallC (s[i])=false)(h2:digitC (s[i])=false)(h3:(s[i]).toNat=34):Calls Tryz.prog 61 #[.string ⟨s.toArray⟩,.int .i64 (i:Int)] w fun e w'=> RetO (tokL (s.drop i)) (s.drop i) i e∧Below w.heap.size w w':=by
 have hsz:(ByteArray.mk s.toArray).size=s.length:=by simp [ByteArray.size]
 obtain ⟨c,hc⟩: ∃c,s[i]=c:=⟨_,rfl⟩
 have hx:=ba_at s i hin hc
 have HD:Hid (s.drop i=c::s.drop (i+1)):=Lib.hid (by rw [List.drop_eq_getElem_cons hin,hc])
 rw [hc]at h1 h2 h3
 clear hc
 have hk:kindN c=4:=by unfold kindN;rw [if_neg (by simp [h1]),if_neg (by simp [h2]),if_neg (by omega),if_pos h3]
 have HT:Hid (tokL (s.drop i)=quoL (s.drop i)):=Lib.hid (by rw [HD.out,tokL_cons,if_neg (by simp [h1]),if_neg (by simp [h2]),if_pos h3])
 rw [HT.out]
 clear h1 h2 h3
 go_enter Tryz.func61,Tryz.ntmps61
 go_wp2_with fail
 refine (rkind_any c _).mono ?_;rintro e w1 ⟨rfl,rfl⟩
 rw [hk]
 clear hk
 go_wp2_with fail
 generalize hW0:((w.alloc (.cells #[.int .i64 0,.string ⟨#[]⟩,.int .i64 0,.int .i64 0,.string ⟨#[]⟩,.int .i64 0,.int .i64 0,.int .i64 0] 101)).alloc (.cells #[.int .i64 0,.string ⟨#[]⟩,.int .i64 0,.int .i64 0,.string ⟨#[]⟩,.int .i64 0,.int .i64 0,.int .i64 0] 101))=W0 at *
 have hO:OB w W0:=by rw [← hW0];exact OB.start w
 have HO:=Lib.hid hO
 clear hW0 hO
 refine (rquoted_any s i _ hs hin).mono ?_;rintro e w2 ⟨⟨k,x,v,rfl,hr⟩,b2⟩
 have HR:=Lib.hid hr
 have HO2:=Lib.hid (HO.out.next b2)
 clear hr b2
 obtain ⟨x0,x1,x2,x3,x4,x5,x6,x7⟩:=cells8 HO2.out.t
 obtain ⟨f0,f1,f2,f3,f4,f5,f6,f7⟩:=frozen8 HO2.out.t
 obtain ⟨z0,z1,z2,z3,z4,z5,z6,z7⟩:=cells8 HO2.out.z
 obtain ⟨y0,y1,y2,y3,y4,y5,y6,y7⟩:=frozen8 HO2.out.z
 obtain ⟨E,hE⟩: ∃E:Int,(quoL (s.drop i)).e=E:=⟨_,rfl⟩
 obtain ⟨F,hF⟩: ∃F:Int,(if (quoL (s.drop i)).e=0 then (0:Int)else ((i+(quoL (s.drop i)).off:Nat):Int))=F:=⟨_,rfl⟩
 rw [hF,hE]
 have HE:=Lib.hid hE
 have HF:=Lib.hid hF
 clear hE hF
 unfold tk0
 go_wp2_with fail
 refine bodyPost_ret (v:= .tuple #[.agg (tk0 k x v).toArray,.int .i64 E,.int .i64 F]) (by simp [results,Tryz.results61,go_sem,tk0,z0,z1,z2,z3,z4,z5,z6,z7]) rfl ?_
 refine ⟨⟨k,x,v,?_,HR.out⟩,?_⟩
 ·rw [HF.out,HE.out]
 ·have:=HO2.out.b
  repeat (first | (with_reducible exact Below.refl _ _) | (with_reducible assumption) | refine Below.setCell ?_ (by simp <;> omega) _ | refine Below.alloc ?_ (by simp <;> omega) _ | refine Below.drew ?_)
theorem rone_sign (s:List UInt8)(i:Nat)(w:World)(hs:s.length≤20000)(hin:i < s.length)(h1:smallC (s[i])=false)(h2:digitC (s[i])=false)(h3:(s[i]).toNat≠34)(k1:kindN (s[i])≠1)(k2:kindN (s[i])≠2)(k4:kindN (s[i])≠4):Calls Tryz.prog 61 #[.string ⟨s.toArray⟩,.int .i64 (i:Int)] w fun e w'=> RetO (tokL (s.drop i)) (s.drop i) i e∧Below w.heap.size w w':=by
 have hsz:(ByteArray.mk s.toArray).size=s.length:=by simp [ByteArray.size]
 obtain ⟨c,hc⟩: ∃c,s[i]=c:=⟨_,rfl⟩
 have hx:=ba_at s i hin hc
 have HD:Hid (s.drop i=c::s.drop (i+1)):=Lib.hid (by rw [List.drop_eq_getElem_cons hin,hc])
 have hdl:(s.drop i).length=s.length - i:=by simp
 rw [hc]at h1 h2 h3 k1 k2 k4
 clear hc
 have HT:Hid (tokL (s.drop i)=if signL (s.drop i)=0 then ⟨10,0,4,0,zeroV⟩else ⟨0,0,4,signL (s.drop i),zeroV⟩):=Lib.hid (by rw [HD.out,tokL_cons,if_neg (by simp [h1]),if_neg (by simp [h2]),if_neg h3])
 have e1:((kindN c:Int)==1)=false:=by simp;omega
 have e2:((kindN c:Int)==2)=false:=by simp;omega
 have e4:((kindN c:Int)==4)=false:=by simp;omega
 clear h1 h2 h3 k1 k2 k4
 go_enter Tryz.func61,Tryz.ntmps61
 go_wp2_with fail
 refine (rkind_any c _).mono ?_;rintro e w1 ⟨rfl,rfl⟩
 go_wp2_with fail
 generalize hW0:((w.alloc (.cells #[.int .i64 0,.string ⟨#[]⟩,.int .i64 0,.int .i64 0,.string ⟨#[]⟩,.int .i64 0,.int .i64 0,.int .i64 0] 101)).alloc (.cells #[.int .i64 0,.string ⟨#[]⟩,.int .i64 0,.int .i64 0,.string ⟨#[]⟩,.int .i64 0,.int .i64 0,.int .i64 0] 101))=W0 at *
 have hO:OB w W0:=by rw [← hW0];exact OB.start w
 have HO:=Lib.hid hO
 clear hW0 hO
 refine (rsign_any s i _ hs hin).mono ?_;rintro e w2 ⟨rfl,b2⟩
 have HO2:=Lib.hid (HO.out.next b2)
 clear b2
 obtain ⟨x0,x1,x2,x3,x4,x5,x6,x7⟩:=cells8 HO2.out.t
 obtain ⟨f0,f1,f2,f3,f4,f5,f6,f7⟩:=frozen8 HO2.out.t
 obtain ⟨z0,z1,z2,z3,z4,z5,z6,z7⟩:=cells8 HO2.out.z
 obtain ⟨y0,y1,y2,y3,y4,y5,y6,y7⟩:=frozen8 HO2.out.z
 have hsl:=sign_le (s.drop i) (by omega)
 obtain ⟨m,hm⟩: ∃m,signL (s.drop i)=m:=⟨_,rfl⟩
 rw [hm]at hsl HT
 rw [hm]
 clear hm
 by_cases h0:m=0
 ·have g1:((i:Int)+(m:Int)==(i:Int))=true:=by simp;omega
  have hwr:IntKind.i64.wrap ((i:Int)+(m:Int))=(i:Int):=by rw [IntWalk.i64_in _ (by omega)];omega
  have hsum:(i:Int)+(m:Int)=(i:Int):=by omega
  have HR:Hid (tokL (s.drop i)=⟨10,0,4,0,zeroV⟩):=Lib.hid (by rw [HT.out,if_pos h0])
  have HZ:=Lib.hid h0
  clear h0
  go_wp2_with fail
  refine bodyPost_ret (v:= .tuple #[.agg (tk0 0 [] zeroV).toArray,.int .i64 10,.int .i64 (i:Int)]) (by simp [results,Tryz.results61,go_sem,tk0,zeroV,z0,z1,z2,z3,z4,z5,z6,z7]) rfl ?_
  refine ⟨⟨0,[],zeroV,?_,fun h=> ?_⟩,?_⟩
  ·rw [HR.out];rfl
  ·rw [HR.out]at h;exact absurd (show (10:Int)=0 from h) (by decide)
  ·have:=HO2.out.b
   repeat (first | (with_reducible exact Below.refl _ _) | (with_reducible assumption) | refine Below.setCell ?_ (by simp <;> omega) _ | refine Below.alloc ?_ (by simp <;> omega) _ | refine Below.drew ?_)
 ·obtain ⟨k,hk⟩: ∃k,i+m=k:=⟨_,rfl⟩
  have hsum:(i:Int)+(m:Int)=(k:Int):=by omega
  have hcut:=cut_at s i m k hk.symm
  have i1:(i:Int)≤(k:Int):=by omega
  have i2:(k:Int)≤(s.length:Int):=by omega
  have i3:i≤k:=by omega
  have g1:((k:Int)==(i:Int))=false:=by simp;omega
  have HR:Hid (tokL (s.drop i)=⟨0,0,4,m,zeroV⟩):=Lib.hid (by rw [HT.out,if_neg h0])
  have HK:=Lib.hid hk
  clear h0 hk
  go_wp2_with fail
  refine bodyPost_ret (v:= .tuple #[.agg (tk0 4 ((s.drop i).take m) zeroV).toArray,.int .i64 0,.int .i64 0]) (by simp [results,Tryz.results61,go_sem,tk0,zeroV,z0,z1,z2,z3,z4,z5,z6,z7]) rfl ?_
  refine ⟨⟨4,(s.drop i).take m,zeroV,?_,fun h=> ?_⟩,?_⟩
  ·rw [HR.out];rfl
  ·rw [HR.out];exact ⟨rfl,rfl,rfl⟩
  ·have:=HO2.out.b
   repeat (first | (with_reducible exact Below.refl _ _) | (with_reducible assumption) | refine Below.setCell ?_ (by simp <;> omega) _ | refine Below.alloc ?_ (by simp <;> omega) _ | refine Below.drew ?_)
theorem rone_any (s:List UInt8)(i:Nat)(w:World)(hs:s.length≤20000)(hin:i < s.length):Calls Tryz.prog 61 #[.string ⟨s.toArray⟩,.int .i64 (i:Int)] w fun e w'=> RetO (tokL (s.drop i)) (s.drop i) i e∧Below w.heap.size w w':=by
 rcases kind_cases (s[i])with ⟨h1,hk⟩ | ⟨h1,h2,hk⟩ | ⟨h1,h2,h3,hk⟩ | ⟨h1,h2,h3,k1,k2,k4⟩
 ·exact rone_word s i w hs hin h1
 ·exact rone_dig s i w hs hin h1 h2
 ·exact rone_quo s i w hs hin h1 h2 h3
 ·exact rone_sign s i w hs hin h1 h2 h3 k1 k2 k4
end Go.Proofs.YtnbmpfdffoidaaaGreatDoor.X
namespace Go.Proofs.YtnbmpfdffoidaaaGreatDoor.X
open Go.RowKit O V S
theorem lex_same {s:List UInt8}{i j:Nat}(h:skip (s.drop i)=skip (s.drop j)): ∀f,lexS s f i=lexS s f j
 | 0=> rfl
 | f+1=> by unfold lexS;rw [h]
theorem own_setN {w:World}{base e size n b j:Nat}{v:Value}{xs:List Value}(h:w.ownsRow base e size v n xs)(u:Value)(hb: ∀g,v.ownBlock=some g→g≠b):(w.setCell ⟨b,j,none⟩ u).ownsRow base e size v n xs:=
 h.kept (gb_set w b j u) (by
  cases hv:v.ownBlock with
  | none=> exact .inl rfl
  | some g=> exact .inr (fun e=> hb g hv (by injection e)))
theorem cell_app {W w':World}{o:Obj}{g:Nat}{vs:Array Value}{T:TypeId}{row:Option Nat}(X:W.heap[g]? =some (.cells vs T (0,0)))(hg:(W.alloc o).grownBy w' row)(hne: ∀q,row=some q→q≠g):w'.heap[g]? =some (.cells vs T (0,0)):=by
 have h1:=box_next X ((Below.refl W.heap.size W).alloc (Nat.le_refl _) o)
 exact (hg.block g (Array.getElem?_eq_some_iff.1 h1).1 (fun e=> hne g e.symm rfl)).trans h1
def RetRA (s:List UInt8)(b:Nat)(e:Ending)(w':World):Prop:=
 if (lexS s (s.length+1) 0).2.1≠0 then e= .returned (.tuple #[.slice none 0 0,.int .i64 (lexS s (s.length+1) 0).2.1,.int .i64 ((lexS s (s.length+1) 0).2.2:Nat)])
 else ∃A n c xs,e= .returned (.tuple #[.slice A n c,.int .i64 0,.int .i64 0])∧w'.ownsRow b 101 8 (.slice A n c) n xs∧Reps (TkC s) (lexS s (s.length+1) 0).1 xs
theorem rall_any (s:List UInt8)(w:World)(hs:s.length≤16384):Calls Tryz.prog 26 #[.string ⟨s.toArray⟩] w fun e w'=> RetRA s w.heap.size e w'∧Below w.heap.size w w':=by
 have hsz:(ByteArray.mk s.toArray).size=s.length:=by simp [ByteArray.size]
 go_enter Tryz.func26,Tryz.ntmps26
 go_wp2_with fail
 go_loopw [2,3,4,5,6] (fun _ _ _ row iv wr=> ∃(i f n c:Nat) (pre:List Tk) (A:Option Addr) (xs:List Value),row= .slice A n c∧iv= .int .i64 (i:Int)∧i≤s.length∧Hid (lexS s (s.length+1) 0=(pre ++(lexS s f i).1,(lexS s f i).2))∧s.length+1≤f+i∧pre.length≤i∧Hid (n=pre.length)∧Hid (wr.ownsRow w.heap.size 101 8 (.slice A n c) n xs)∧Hid (Reps (TkC s) pre xs)∧Below w.heap.size w wr) (fun _ _ _ _ iv _=> s.length - (intOf iv).toNat)
 case atStart=> exact ⟨0,s.length+1,0,0,[],none,[],rfl,rfl,by omega,Lib.hid (by simp),by omega,by simp,Lib.hid rfl,Lib.hid (World.ownsRow_nil _ _ _ _),Lib.hid (by simp [Reps]),Below.refl _ _⟩
 case round=>
  obtain ⟨i,f,n,c,pre,A,xs,rfl,rfl,hi,hp,hf,hpi,HN,HO,hR,hB⟩:=hrel
  by_cases hlt:i < s.length
  ·have hki:(i:Int) < (s.length:Int):=by omega
   obtain ⟨d,hd⟩: ∃d,s[i]=d:=⟨_,rfl⟩
   have hx:=ba_at s i hlt hd
   by_cases h5:kindN d=5
   ·have hsk:skip (s.drop i)=skip (s.drop (i+1)):=by
     rw [List.drop_eq_getElem_cons hlt,skip_blank _ (by rw [hd];exact (kind5 d).1 h5)]
    have HP:=Lib.hid (hp.out.trans (by rw [lex_same hsk f]))
    clear hp hsk hd
    go_wp2_with fail
    refine (rkind_any d _).mono ?_;rintro e w1 ⟨rfl,rfl⟩
    rw [h5]
    clear h5
    go_wp2_with fail
    go_roundw
    case rel=> exact ⟨i+1,f,n,c,pre,A,xs,rfl,by go_num,by omega,HP,by omega,by omega,HN,HO,hR,hB⟩
    case measure=> simp [intOf];omega
   ·have g5:((kindN d:Int)==5)=false:=by simp;omega
    by_cases h6:kindN d=6
    ·have h35:=(kind6 d).1 h6
     have hnote:=Lib.hid (skip_at_note hlt (by rw [hd];exact h35))
     have g6:((kindN d:Int)==6)=true:=by simp;omega
     clear h5 h6 hd h35
     go_wp2_with fail
     refine (rkind_any d _).mono ?_;rintro e w1 ⟨rfl,rfl⟩
     go_wp2_with fail
     refine (rkind_any d _).mono ?_;rintro e w1 ⟨rfl,rfl⟩
     go_wp2_with fail
     have hdl:(s.drop i).length=s.length - i:=by simp
     clear g5 g6
     go_loop [6] (fun v=> ∃m:Nat,i+m≤s.length∧v= .int .i64 ((i+m:Nat):Int)∧Hid (((s.drop i).take m).all noteC=true)) (fun v=> s.length - (intOf v).toNat)
     case atStart=> exact ⟨0,by omega,rfl,Lib.hid (by simp)⟩
     case round=>
      obtain ⟨m,hml,rfl,H⟩:=hrel
      obtain ⟨k,hk⟩: ∃k,i+m=k:=⟨_,rfl⟩
      have HK:=Lib.hid hk
      rw [hk]
      rw [hk]at hml
      by_cases hl2:k < s.length
      ·have hlt':m < (s.drop i).length:=by omega
       have hst:=Lib.hid (all_snoc (p:=noteC) hlt' H.out)
       have hno:=Lib.hid (run_step (p:=noteC) hlt' H.out)
       obtain ⟨q,hq⟩: ∃q,(s.drop i)[m]=q:=⟨_,rfl⟩
       rw [hq]at hst hno
       rw [List.getElem_drop]at hq
       have hx2:=ba_at s k hl2 (by simpa only [hk]using hq)
       have hki2:(k:Int) < (s.length:Int):=by omega
       clear hq hk
       cases hp10:noteC q
       ·have hrl:runLen noteC (s.drop i)=m:=hno.out.trans (if_neg (by simp [hp10]))
        have e10:((q.toNat:Int) !=10)=false:=by simp [noteC]at hp10;simp;omega
        have hsk:=hnote.out
        rw [hrl,HK.out]at hsk
        have hpos:=hsk.2
        have HP:=Lib.hid (hp.out.trans (by rw [← lex_same hsk.1 f]))
        clear hsk hrl
        try clear hp10
        go_wp2_with fail
        go_roundw
        case rel=> exact ⟨k,f,n,c,pre,A,xs,rfl,rfl,by omega,HP,by have:=HK.out;omega,by have:=HK.out;omega,HN,HO,hR,hB⟩
        case measure=> have:=HK.out;simp [intOf];omega
       ·have e10:((q.toNat:Int) !=10)=true:=by simp [noteC]at hp10;simp;omega
        have hst':=Lib.hid (hst.out hp10)
        clear hp10
        go_wp2_with fail
        go_round
        case rel=> exact ⟨m+1,by have:=HK.out;omega,congrArg (Value.int .i64) (by have:=HK.out;omega),hst'⟩
        case measure=> simp [intOf];omega
      ·have hrl:runLen noteC (s.drop i)=m:=by
        have h1:=H.out
        rw [List.take_of_length_le (by omega)]at h1
        rw [run_all h1];omega
       have hki2: ¬(k:Int) < (s.length:Int):=by omega
       clear hk
       have hsk:=hnote.out
       rw [hrl,HK.out]at hsk
       have hpos:=hsk.2
       have HP:=Lib.hid (hp.out.trans (by rw [← lex_same hsk.1 f]))
       clear hsk hrl
       try clear hp10
       go_wp2_with fail
       go_roundw
       case rel=> exact ⟨k,f,n,c,pre,A,xs,rfl,rfl,by omega,HP,by have:=HK.out;omega,by have:=HK.out;omega,HN,HO,hR,hB⟩
       case measure=> have:=HK.out;simp [intOf];omega
    ·have g6:((kindN d:Int)==6)=false:=by simp;omega
     have hst:skip (s.drop i)=s.drop i:=by
      rw [List.drop_eq_getElem_cons hlt,skip_stop]
      ·rw [hd];cases hb:blankC d
       ·rfl
       ·exact absurd ((kind5 d).2 hb) h5
      ·rw [hd];exact fun e=> h6 ((kind6 d).2 e)
     have hj:s.length - (skip (s.drop i)).length=i:=by rw [hst,List.length_drop];omega
     clear h5 h6 hd
     obtain ⟨f,rfl⟩: ∃f',f=f'+1:=⟨f - 1,by omega⟩
     go_wp2_with fail
     refine (rkind_any d _).mono ?_;rintro e w1 ⟨rfl,rfl⟩
     go_wp2_with fail
     refine (rkind_any d _).mono ?_;rintro e w1 ⟨rfl,rfl⟩
     go_wp2_with fail
     refine (rone_any s i _ (by omega) hlt).mono ?_;rintro e w2 ⟨⟨k,x,v,rfl,hr⟩,b2⟩
     have O2:=own_below HO.out b2
     have B2:=hB.trans (b2.mono hB.size)
     have hne: ∀g,(Value.slice A n c).ownBlock=some g→g≠w2.heap.size:=fun g hg=> by have:=(O2.lt g hg).2;omega
     have hb2:w.heap.size≤w2.heap.size:=B2.size
     have HN1:=HN.out
     have hn20:n≤20000:=by omega
     have HHN:=Lib.hid hne
     have HO2:=Lib.hid O2
     have HB2:=Lib.hid B2
     clear hst g5 g6 HN1 hne O2 B2 b2 hB HO
     by_cases he:(tokL (s.drop i)).e=0
     ·have hle:=lex_ok (f:=f) hi hj hlt he
      have htp:=tokL_pos (s.drop i) he
      rw [List.length_drop]at htp
      have HP:=Lib.hid (hp.out.trans (by rw [hle]))
      obtain ⟨r1,r2,r3⟩:=hr he
      have hxl:x.length=(tokL (s.drop i)).n:=by rw [r2,List.length_take,List.length_drop];omega
      rw [← r1,← r2,← r3,← hxl]at HP
      rw [he,if_pos rfl]
      rw [← hxl]at htp
      clear hle hp hj hr r1 r2 r3 hxl he
      obtain ⟨i',hi'⟩: ∃i':Nat,i+x.length=i':=⟨_,rfl⟩
      rw [hi']at HP
      have hsx:(ByteArray.mk x.toArray).size=x.length:=by simp [ByteArray.size]
      have hsum:(i:Int)+(x.length:Int)=(i':Int):=by omega
      have hcl:clampI s (i:Int)=i:=by unfold clampI;rw [if_neg (by omega),if_neg (by omega)];rfl
      have HCL:=Lib.hid hcl
      have HI:=Lib.hid hi'
      have h7:i < i':=by omega
      have h8:i'≤s.length:=by omega
      clear hcl hi'
      unfold tk0
      go_wp2_with fail
      refine (rat_any s (i:Int) _ (by omega)).mono ?_;rintro e w3 ⟨rfl,b3⟩
      rw [HCL.out]
      have X3:=box_next (heap_alloc_new w2 (.cells (tk0 k x v).toArray 101)) b3
      have X3':w3.heap[w2.heap.size]? =some (.cells #[.int .i64 k,.string ⟨x.toArray⟩,.int .i64 v.k,.int .i64 v.n,.string ⟨v.s.toArray⟩,.int .i64 0,.int .i64 0,.int .i64 0] 101 (0,0)):=X3
      clear X3
      have O3:=Lib.hid (own_below (own_below HO2.out ((Below.refl _ _).alloc (Nat.le_refl _) (.cells (tk0 k x v).toArray 101))) b3)
      have B3:=Lib.hid (HB2.out.trans (((Below.refl w2.heap.size w2).alloc (Nat.le_refl _) (.cells (tk0 k x v).toArray 101)).mono hb2 |>.trans (b3.mono (Nat.le_trans hb2 (by simp)))))
      have hlt3:w2.heap.size < w3.heap.size:=(Array.getElem?_eq_some_iff.1 X3').1
      obtain ⟨x0,x1,x2,x3,x4,x5,x6,x7⟩:=cells8 X3'
      obtain ⟨f0,f1,f2,f3,f4,f5,f6,f7⟩:=frozen8 X3'
      obtain ⟨P,hP⟩: ∃P:Int,(lineOf s i:Int)=P:=⟨_,rfl⟩
      obtain ⟨Q,hQ⟩: ∃Q:Int,(i:Int) - (startOf s i:Int)+1=Q:=⟨_,rfl⟩
      have HTC:Hid (tkCells k x v s i=[.int .i64 k,.string ⟨x.toArray⟩,.int .i64 v.k,.int .i64 v.n,.string ⟨v.s.toArray⟩,.int .i64 (i:Int),.int .i64 P,.int .i64 Q]):=Lib.hid (by rw [← hP,← hQ];rfl)
      unfold plc pv
      rw [hP,hQ]
      clear hP hQ
      have X4:=Lib.hid (heap_set (i:=7) (heap_set (i:=6) (heap_set (i:=5) X3' (.int .i64 (i:Int))) (.int .i64 P)) (.int .i64 Q))
      have hsn:Hid (Reps (TkC s) (pre ++ [⟨k,x,v,i⟩]) (xs ++ [.int .i64 k,.string ⟨x.toArray⟩,.int .i64 v.k,.int .i64 v.n,.string ⟨v.s.toArray⟩,.int .i64 (i:Int),.int .i64 P,.int .i64 Q])):=Lib.hid (hR.out.append (.one HTC.out.symm))
      have O4:=Lib.hid (own_setN (j:=7) (own_setN (j:=6) (own_setN (j:=5) O3.out (.int .i64 (i:Int)) HHN.out) (.int .i64 P) HHN.out) (.int .i64 Q) HHN.out)
      have B4:=Lib.hid (((B3.out.setCell (p:=⟨w2.heap.size,5,none⟩) hb2 (.int .i64 (i:Int))).setCell (p:=⟨w2.heap.size,6,none⟩) hb2 (.int .i64 P)).setCell (p:=⟨w2.heap.size,7,none⟩) hb2 (.int .i64 Q))
      clear b3 O3 X3'
      go_wp2_with (at_builtin;refine wpList_app rfl (.tmp 56) (.tmp 58) tokE rfl w.heap.size xs rfl (O4.out.alloc _) rfl [.int .i64 k,.string ⟨x.toArray⟩,.int .i64 v.k,.int .i64 v.n,.string ⟨v.s.toArray⟩,.int .i64 (i:Int),.int .i64 P,.int .i64 Q] (Rd.made _ [.int .i64 k,.string ⟨x.toArray⟩,.int .i64 v.k,.int .i64 v.n,.string ⟨v.s.toArray⟩,.int .i64 (i:Int),.int .i64 P,.int .i64 Q] rfl (by simp)) (by simp [Value.oneCell']) (by unfold maxLen;omega) (by omega) (by simp;omega) ?_;intro A4 c4 w4 o4 g4 _;have t4:w4.cell? ⟨w2.heap.size,1,none⟩=some (.string ⟨x.toArray⟩):=by rw [Lib.cell_of_heap (cell_app X4.out g4 HHN.out)];rfl)
      have hbs:=B4.out.size
      go_roundw
      case rel=> exact ⟨i',f,n+1,c4,pre ++ [⟨k,x,v,i⟩],A4,_,rfl,rfl,h8,Lib.hid (by rw [HP.out,List.append_assoc];rfl),by omega,by simp;omega,Lib.hid (by rw [HN.out];simp),Lib.hid o4,hsn,below_app (B4.out.alloc hbs _) (O4.out.alloc _) g4 (by simp;omega)⟩
      case measure=> simp [intOf];omega
     ·have hle:=lex_err (f:=f) hi hj hlt he
      have HP:=Lib.hid (hp.out.trans (by rw [hle,List.append_nil]))
      have g3:((tokL (s.drop i)).e !=0)=true:=by simpa using he
      have g4:((tokL (s.drop i)).e==0)=false:=by simpa using he
      rw [if_neg he]
      have HE:=Lib.hid he
      clear hle hp hj hr he
      generalize tokL (s.drop i)=R at *
      unfold tk0
      go_wp2_with fail
      go_ret3
      refine ⟨?_,HB2.out.alloc hb2 _⟩
      unfold RetRA
      rw [if_pos (by rw [HP.out];exact HE.out),HP.out]
      rfl
  ·obtain rfl:i=s.length:=by omega
   obtain ⟨f,rfl⟩: ∃f',f=f'+1:=⟨f - 1,by omega⟩
   have hle:=lex_end (s:=s) (i:=s.length) (f:=f) (by rw [List.drop_length,skip_nil];simp)
   have HP:=Lib.hid (hp.out.trans (by rw [hle,List.append_nil]))
   clear hp hle
   go_wp2_with fail
   go_ret3
   refine ⟨?_,hB⟩
   unfold RetRA
   rw [if_neg (by rw [HP.out];simp)]
   exact ⟨A,n,c,xs,rfl,HO.out,by rw [HP.out];exact hR.out⟩
end Go.Proofs.YtnbmpfdffoidaaaGreatDoor.X
namespace Go.Proofs.YtnbmpfdffoidaaaGreatDoor.Y
open O V S X
theorem quo_good: ∀(n:Nat) (l:List UInt8),l.length≤n→∀(k:Nat) (q Q:Quo),quoS l k q=some Q→Q.bad=none→q.bad=none∧(q.s.all V.okC=true→Q.s.all V.okC=true)∧Q.s.length+k≤q.s.length+Q.n:=by
 intro n
 induction n with
 | zero=>
  intro l hl k q Q h _
  cases l with
  | nil=> rw [quoS_nil]at h;cases h
  | cons _ _=> simp at hl
 | succ n ih=>
  intro l hl k q Q h hb
  match l,hl with
  | [],_=> rw [quoS_nil]at h;cases h
  | x::l,hl=>
   simp at hl
   rw [quoS_cons]at h
   split at h
   ·cases h;exact ⟨hb,fun h=> h,Nat.le_refl _⟩
   ·split at h
    ·match l,hl with
     | [],_=> cases h
     | d::r,hl=>
      obtain ⟨h1,h2,h3⟩:=ih r (by simp at hl;omega) (k+2) _ _ h hb
      simp only at h1 h2 h3
      cases hq:q.bad with
      | some b=> rw [hq]at h1;simp [orE]at h1
      | none=>
       rw [hq]at h1
       simp only [orE]at h1
       refine ⟨rfl,fun ha=> h2 ?_,by simp at h3;omega⟩
       have hd:wrongC d=false:=by
        cases hw:wrongC d
        ·rfl
        ·rw [hw]at h1;simp at h1
       rw [List.all_append,ha]
       unfold wrongC at hd
       simp at hd
       simp [V.okC];omega
    ·obtain ⟨h1,h2,h3⟩:=ih l (by omega) (k+1) _ _ h hb
     simp only at h1 h2 h3
     cases hq:q.bad with
     | some b=> rw [hq]at h1;simp [orE]at h1
     | none=>
      rw [hq]at h1
      simp only [orE]at h1
      refine ⟨rfl,fun ha=> h2 ?_,by simp at h3;omega⟩
      have hd:wrongC x=false:=by
       cases hw:wrongC x
       ·rfl
       ·rw [hw]at h1;simp at h1
      rw [List.all_append,ha]
      unfold wrongC at hd
      simp at hd
      simp [V.okC];omega
theorem numV_lt: ∀(l:List UInt8) (a:Nat),l.all digitC=true→l.foldl (fun n c=> 10 * n+(c.toNat - 48)) a < (a+1) * 10 ^ l.length
 | [],a,_=> by simp
 | c::l,a,h=> by
  simp only [List.all_cons,Bool.and_eq_true]at h
  have:=numV_lt l (10 * a+(c.toNat - 48)) h.2
  have hd:=h.1
  unfold digitC at hd
  simp at hd
  rw [List.foldl_cons]
  refine Nat.lt_of_lt_of_le this ?_
  rw [List.length_cons,Nat.pow_succ,Nat.mul_comm (10 ^ l.length) 10,← Nat.mul_assoc]
  exact Nat.mul_le_mul_right _ (by omega)
theorem run_all (p:UInt8→Bool): ∀l:List UInt8,(l.take (runLen p l)).all p=true
 | []=> by simp
 | c::l=> by
  unfold runLen
  split
  ·rename_i h
   rw [List.take_succ_cons,List.all_cons,h,run_all p l];rfl
  ·simp
theorem tok_z (v:List UInt8)(hv:v≠[])(he:(tokL v).e=0):TokZ ((tokL v).k,v.take (tokL v).n,(tokL v).v)∧cw 0 ((tokL v).k,v.take (tokL v).n,(tokL v).v)≤2 * (tokL v).n:=by
 cases v with
 | nil=> exact absurd rfl hv
 | cons c r=>
  rw [tokL_cons]at he⊢
  split at he
  ·split at he
   ·cases he
   ·rename_i h1 h2
    rw [if_pos h1,if_neg h2]
    refine ⟨⟨⟨fun h=> by simp at h,fun h=> by simp at h⟩,fun h=> by simp at h⟩,?_⟩
    rw [cw,if_neg (by simp)]
    simp only [List.length_take];omega
  ·split at he
   ·split at he
    ·rename_i h1 h2 h3
     rw [if_neg h1,if_pos h2,if_pos h3]
     have ha:=run_all digitC (c::r)
     have hle:=runLen_le digitC (c::r)
     have h0:0 < runLen digitC (c::r):=by unfold runLen;rw [if_pos h2];omega
     have hl:((c::r).take (runLen digitC (c::r))).length=runLen digitC (c::r):=by rw [List.length_take];omega
     generalize (c::r).take (runLen digitC (c::r))=ds at *
     have hlt:=numV_lt ds 0 ha
     have hd:(decL ((numV ds:Nat):Int)).length≤ds.length:=by
      rw [decL,if_neg (by omega)]
      have h9:((numV ds:Nat):Int).natAbs=numV ds:=by omega
      rw [h9]
      have:=digN_len (ds.length - 1) (numV ds) (by rw [show ds.length - 1+1=ds.length by omega];unfold numV;omega)
      omega
     have hok:okNum ((numV ds:Nat):Int):=by
      unfold numOk at h3
      simp only [Bool.and_eq_true,decide_eq_true_eq]at h3
      have:=h3.1
      exact ⟨by omega,by omega⟩
     refine ⟨⟨⟨fun _=> ⟨_,hok,rfl⟩,fun h=> by simp at h⟩,fun _=> hd⟩,?_⟩
     rw [cw,if_neg (by simp)]
     simp only;omega
    ·cases he
   ·split at he
    ·rename_i h1 h2 h3
     rw [if_neg h1,if_neg h2,if_pos h3]
     cases hq:quoS ((c::r).drop 1) 1 ⟨0,[],none⟩with
     | none=> unfold quoL at he;rw [hq]at he;cases he
     | some Q=>
      cases hb:Q.bad with
      | some k=> rw [quoL_bad hq hb]at he;cases he
      | none=>
       rw [quoL_ok hq hb]at he⊢
       split at he
       ·cases he
       ·rename_i h4
        rw [if_neg h4]
        obtain ⟨_,g2,g3⟩:=quo_good _ _ (Nat.le_refl _) 1 _ Q hq hb
        refine ⟨⟨⟨fun h=> by simp at h,fun _=> ⟨Q.s,?_,rfl⟩⟩,fun h=> by simp at h⟩,?_⟩
        ·unfold plainL
         rw [g2 rfl]
         simp;omega
        ·rw [cw,if_pos rfl]
         have:=escL_len Q.s
         simp only [quoteL,List.length_cons,List.length_append,List.length_nil]at g3⊢
         omega
    ·split at he
     ·cases he
     ·rename_i h1 h2 h3 h4
      rw [if_neg h1,if_neg h2,if_neg h3,if_neg h4]
      refine ⟨⟨⟨fun h=> by simp at h,fun h=> by simp at h⟩,fun h=> by simp at h⟩,?_⟩
      rw [cw,if_neg (by simp)]
      simp only [List.length_take];omega
theorem LexU.z {u:List UInt8}{l:List Tok}{e:Int}{o:Nat}(h:LexU u l e o):AllZ l∧W 0 l≤2 * u.length:=by
 induction h with
 | fin _=> exact ⟨fun t ht=> (by cases ht),Nat.zero_le _⟩
 | err _ _ _=> exact ⟨fun t ht=> (by cases ht),Nat.zero_le _⟩
 | @tok u v l e o h hv he hr ih=>
  obtain ⟨z1,z2⟩:=tok_z v hv he
  have hp:=tokL_pos v he
  have h1:=skip_len _ u (Nat.le_refl _)
  rw [h]at h1
  rw [List.length_drop]at ih
  refine ⟨fun t ht=> ?_,?_⟩
  ·rcases List.mem_cons.1 ht with e | e
   ·rw [e];exact z1
   ·exact ih.1 t e
  ·rw [W_cons];omega
theorem W_e (e:Nat): ∀l:List Tok,W e l=W 0 l+e * l.length
 | []=> by simp [W]
 | t::l=> by rw [W_cons,W_cons,W_e e l,List.length_cons,Nat.mul_add];unfold cw;omega
theorem LexU.we {u:List UInt8}{l:List Tok}{e:Int}{o:Nat}(h:LexU u l e o)(k:Nat):W k l≤2 * u.length+k * u.length:=by
 have:=(Y.LexU.z h).2
 have h2:=h.len
 rw [W_e]
 have:=Nat.mul_le_mul_left k h2
 omega
theorem LexU.txt {u:List UInt8}{l:List Tok}{e:Int}{o:Nat}(h:LexU u l e o): ∀t ∈ l,t.2.1.length≤u.length:=by
 induction h with
 | fin _=> exact fun t ht=> (by cases ht)
 | err _ _ _=> exact fun t ht=> (by cases ht)
 | @tok u v l e o h hv he hr ih=>
  have h1:=skip_len _ u (Nat.le_refl _)
  rw [h]at h1
  rw [List.length_drop]at ih
  intro t ht
  rcases List.mem_cons.1 ht with e | e
  ·rw [e];simp only [List.length_take];omega
  ·have:=ih t e;omega
end Go.Proofs.YtnbmpfdffoidaaaGreatDoor.Y
