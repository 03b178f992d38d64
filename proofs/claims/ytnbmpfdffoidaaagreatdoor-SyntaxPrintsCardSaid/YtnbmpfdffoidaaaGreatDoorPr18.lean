/- Texts of the proof, joined: LexRefQ, ValRParse2, LexRefO. -/
import Derived.Test.YtnbmpfdffoidaaaGreatDoorPr03
import Derived.Test.YtnbmpfdffoidaaaGreatDoorPr06
import Derived.Test.YtnbmpfdffoidaaaGreatDoorPr08
import Derived.Test.YtnbmpfdffoidaaaGreatDoorPr17
import Derived.RegionTactic
import Derived.ChangeAlike
set_option linter.unusedVariables false
set_option linter.unusedSimpArgs false
set_option maxHeartbeats 8000000
set_option maxRecDepth 100000
namespace Go.Proofs.YtnbmpfdffoidaaaGreatDoor.X
open Go.RowKit O V S
def tk0 (k:Int)(x:List UInt8)(v:Val):List Value:=[.int .i64 k,.string ⟨x.toArray⟩,.int .i64 v.k,.int .i64 v.n,.string ⟨v.s.toArray⟩,.int .i64 0,.int .i64 0,.int .i64 0]
def RetO (R:TokR)(t:List UInt8)(i:Nat)(e:Ending):Prop:= ∃k x v,e= .returned (.tuple #[.agg (tk0 k x v).toArray,.int .i64 R.e,.int .i64 (if R.e=0 then 0 else ((i+R.off:Nat):Int))])∧(R.e=0→k=R.k∧x=t.take R.n∧v=R.v)
section
variable {s:List UInt8} {k:Nat}
theorem qr_end (h:s.length≤k)(m:Nat)(q:Quo):quoS (s.drop k) m q=none:=by rw [List.drop_of_length_le h,quoS_nil]
theorem qr_quote (h:k < s.length){c:UInt8}(he:s[k]=c)(hc:c.toNat=34)(m:Nat)(q:Quo):quoS (s.drop k) m q=some ⟨m,q.s,q.bad⟩:=by
 rw [List.drop_eq_getElem_cons h,quoS_cons,if_pos (by rw [he];exact hc)]
theorem qr_esc (h:k+1 < s.length){c d:UInt8}(he:s[k]=c)(hd:s[k+1]=d)(hc:c.toNat=92)(m:Nat)(q:Quo):quoS (s.drop k) m q=quoS (s.drop (k+2)) (m+2) ⟨0,q.s ++ [d],orE q.bad (if (!escC d || wrongC d)=true then some (m+1)else none)⟩:=by
 rw [List.drop_eq_getElem_cons (by omega:k < s.length),quoS_cons,if_neg (by rw [he];omega),if_pos (by rw [he];exact hc),List.drop_eq_getElem_cons h,hd]
theorem qr_esc_end (h:k+1=s.length){c:UInt8}(he:s[k]'(by omega)=c)(hc:c.toNat=92)(m:Nat)(q:Quo):quoS (s.drop k) m q=none:=by
 rw [List.drop_eq_getElem_cons (by omega:k < s.length),quoS_cons,if_neg (by rw [he];omega),if_pos (by rw [he];exact hc),List.drop_of_length_le (by omega)]
theorem qr_go (h:k < s.length){c:UInt8}(he:s[k]=c)(h1:c.toNat≠34)(h2:c.toNat≠92)(m:Nat)(q:Quo):quoS (s.drop k) m q=quoS (s.drop (k+1)) (m+1) ⟨0,q.s ++ [c],orE q.bad (if wrongC c=true then some m else none)⟩:=by
 rw [List.drop_eq_getElem_cons h,quoS_cons,if_neg (by rw [he];exact h1),if_neg (by rw [he];exact h2),he]
end
def badI (i:Nat):Option Nat→Int
 | none=> -1
 | some q=> ((i+q:Nat):Int)
structure QB (w:World)(b:List UInt8)(W:World):Prop where
 z:W.heap[w.heap.size]? =some (.cells #[.int .i64 0,.string ⟨#[]⟩,.int .i64 0,.int .i64 0,.string ⟨#[]⟩,.int .i64 0,.int .i64 0,.int .i64 0] 101 (0,0))
 t:W.heap[w.heap.size+1]? =some (.cells #[.int .i64 3,.string ⟨#[]⟩,.int .i64 3,.int .i64 0,.string ⟨b.toArray⟩,.int .i64 0,.int .i64 0,.int .i64 0] 101 (0,0))
 b:Below w.heap.size w W
theorem QB.start (w:World):QB w [] ((w.alloc (.cells #[.int .i64 0,.string ⟨#[]⟩,.int .i64 0,.int .i64 0,.string ⟨#[]⟩,.int .i64 0,.int .i64 0,.int .i64 0] 101)).alloc (.cells #[.int .i64 3,.string ⟨#[]⟩,.int .i64 3,.int .i64 0,.string ⟨#[]⟩,.int .i64 0,.int .i64 0,.int .i64 0] 101)):=
 ⟨alloc_old' (alloc_at rfl),alloc_at (by simp),by repeat (first | exact Below.refl _ _ | refine Below.alloc ?_ (by simp <;> omega) _)⟩
theorem QB.drew {w W:World}{b:List UInt8}(h:QB w b W):QB w b W.drew:=⟨h.z,h.t,h.b.drew⟩
theorem QB.set {w W:World}{b b':List UInt8}(h:QB w b W):QB w b' (W.setCell ⟨w.heap.size+1,4,none⟩ (.string ⟨b'.toArray⟩)):=
 ⟨(Below.heap_setCell _ _ _ _ (show w.heap.size≠w.heap.size+1 by omega)).trans h.z,by have:=heap_set (i:=4) h.t (.string ⟨b'.toArray⟩);simpa using this,h.b.setCell (by simp) _⟩
theorem orE_none (b:Option Nat):orE b none=b:=by cases b <;> rfl
theorem quoL_none {t:List UInt8}(h:quoS (t.drop 1) 1 ⟨0,[],none⟩=none):quoL t=⟨12,t.length,3,0,zeroV⟩:=by unfold quoL;rw [h]
theorem rquoted_any (s:List UInt8)(i:Nat)(w:World)(hs:s.length≤20000)(hin:i < s.length):Calls Tryz.prog 118 #[.string ⟨s.toArray⟩,.int .i64 (i:Int)] w fun e w'=> RetO (quoL (s.drop i)) (s.drop i) i e∧Below w.heap.size w w':=by
 have hsz:(ByteArray.mk s.toArray).size=s.length:=by simp [ByteArray.size]
 go_enter Tryz.func118,Tryz.ntmps118
 go_wp2_with fail
 have H0:=Lib.hid (QB.start w)
 go_loopw [8,9] (fun u v wr=> ∃(m:Nat) (b:List UInt8) (bd:Option Nat),1≤m∧i+m≤s.length∧u= .int .i64 (badI i bd)∧v= .int .i64 ((i+m:Nat):Int)∧QB w b wr∧b.length≤m∧Hid (quoS (s.drop (i+m)) m ⟨0,b,bd⟩=quoS (s.drop (i+1)) 1 ⟨0,[],none⟩)∧Hid (∀q,bd=some q→q≤s.length)) (fun _ v _=> s.length - (intOf v).toNat)
 case atStart=> exact ⟨1,[],none,by omega,by omega,rfl,by go_num,H0.out,by simp,Lib.hid rfl,Lib.hid (fun q h=> by cases h)⟩
 case round=>
  obtain ⟨m,b,bd,hm1,hml,rfl,rfl,hR,hbl,H,hbq⟩:=hrel
  obtain ⟨k,hk⟩: ∃k,i+m=k:=⟨_,rfl⟩
  rw [hk]at hml H
  rw [hk]
  have HR:=Lib.hid hR;clear hR H0
  have hbz:(ByteArray.mk b.toArray).size=b.length:=by simp [ByteArray.size]
  obtain ⟨x0,x1,x2,x3,x4,x5,x6,x7⟩:=cells8 HR.out.t
  obtain ⟨_,f1,_,_,f4,_,_,_⟩:=frozen8 HR.out.t
  obtain ⟨z0,z1,z2,z3,z4,z5,z6,z7⟩:=cells8 HR.out.z
  obtain ⟨y0,y1,y2,y3,y4,y5,y6,y7⟩:=frozen8 HR.out.z
  have HK:=Lib.hid hk
  have hlm:b.length+1≤9223372036854775807:=by omega
  by_cases hlt:k < s.length
  ·obtain ⟨c,hc⟩: ∃c,s[k]=c:=⟨_,rfl⟩
   have hx:=ba_at s k hlt hc
   have hki:(k:Int) < (s.length:Int):=by omega
   by_cases h34:c.toNat=34
   ·have g34:((c.toNat:Int) !=34)=false:=by simp;omega
    have g34':((c.toNat:Int)==34)=true:=by simp;omega
    have hq:=Lib.hid (H.out.symm.trans (qr_quote hlt hc h34 _ _))
    have hq':quoS ((s.drop i).drop 1) 1 ⟨0,[],none⟩=some ⟨m,b,bd⟩:=by rw [List.drop_drop];exact hq.out
    have HQ:=Lib.hid hq'
    have hcut:=cut_at s i (m+1) (k+1) (by omega)
    have i1:(k:Int)+1≤(s.length:Int):=by omega
    have i2:(i:Int)≤(k:Int)+1:=by omega
    have hn3:((k:Int)+1).toNat=k+1:=by omega
    have hle:decide ((k:Int) ≥ (s.length:Int))=false:=by simp;omega
    clear hk hc h34 H hq'
    cases bd with
    | none=>
     have hb':badI i none=-1:=rfl
     rw [hb']
     clear hb'
     by_cases hbig:b.length > 32
     ·have g1:decide ((b.length:Int) > 32)=true:=by simp;omega
      have HBG:=Lib.hid hbig
      clear hbig
      go_wp2_with fail
      refine bodyPost_ret (v:= .tuple #[.agg (tk0 3 [] ⟨3,0,b⟩).toArray,.int .i64 2,.int .i64 (i:Int)]) (by simp [results,Tryz.results118,go_sem,tk0,z0,z1,z2,z3,z4,z5,z6,z7]) rfl ?_
      refine ⟨⟨3,[],⟨3,0,b⟩,?_,fun h=> ?_⟩,?_⟩
      ·rw [quoL_ok HQ.out rfl,if_pos HBG.out];rfl
      ·rw [quoL_ok HQ.out rfl,if_pos HBG.out]at h;exact absurd h (by decide)
      ·have:=HR.out.b
       repeat (first | (with_reducible exact Below.refl _ _) | (with_reducible assumption) | refine Below.setCell ?_ (by simp <;> omega) _ | refine Below.alloc ?_ (by simp <;> omega) _ | refine Below.drew ?_)
     ·have g1:decide ((b.length:Int) > 32)=false:=by simp;omega
      have HBG:=Lib.hid hbig
      clear hbig
      go_wp2_with fail
      refine bodyPost_ret (v:= .tuple #[.agg (tk0 3 ((s.drop i).take (m+1)) ⟨3,0,b⟩).toArray,.int .i64 0,.int .i64 0]) (by simp [results,Tryz.results118,go_sem,tk0,z0,z1,z2,z3,z4,z5,z6,z7]) rfl ?_
      refine ⟨⟨3,(s.drop i).take (m+1),⟨3,0,b⟩,?_,fun h=> ?_⟩,?_⟩
      ·rw [quoL_ok HQ.out rfl,if_neg HBG.out];rfl
      ·rw [quoL_ok HQ.out rfl,if_neg HBG.out];exact ⟨rfl,rfl,rfl⟩
      ·have:=HR.out.b
       repeat (first | (with_reducible exact Below.refl _ _) | (with_reducible assumption) | refine Below.setCell ?_ (by simp <;> omega) _ | refine Below.alloc ?_ (by simp <;> omega) _ | refine Below.drew ?_)
    | some q=>
     have hb':badI i (some q)=((i+q:Nat):Int):=rfl
     rw [hb']
     obtain ⟨B,hB⟩: ∃B:Nat,i+q=B:=⟨_,rfl⟩
     rw [hB]
     have HB:=Lib.hid hB
     have hB0:decide ((B:Int) ≥ 0)=true:=by simp
     clear hb' hB
     go_wp2_with fail
     refine bodyPost_ret (v:= .tuple #[.agg (tk0 3 [] ⟨3,0,b⟩).toArray,.int .i64 10,.int .i64 (B:Int)]) (by simp [results,Tryz.results118,go_sem,tk0,z0,z1,z2,z3,z4,z5,z6,z7]) rfl ?_
     refine ⟨⟨3,[],⟨3,0,b⟩,?_,fun h=> ?_⟩,?_⟩
     ·rw [quoL_bad HQ.out rfl,if_neg (by show ¬(10:Int)=0;decide),HB.out]
     ·rw [quoL_bad HQ.out rfl]at h;exact absurd (show (10:Int)=0 from h) (by decide)
     ·have:=HR.out.b
      repeat (first | (with_reducible exact Below.refl _ _) | (with_reducible assumption) | refine Below.setCell ?_ (by simp <;> omega) _ | refine Below.alloc ?_ (by simp <;> omega) _ | refine Below.drew ?_)
   ·have g34:((c.toNat:Int) !=34)=true:=by simp;omega
    have g34':((c.toNat:Int)==34)=false:=by simp;omega
    by_cases h92:c.toNat=92
    ·have g92:((c.toNat:Int)==92)=true:=by simp;omega
     by_cases hlt2:k+1 < s.length
     ·obtain ⟨d,hd⟩: ∃c,s[k+1]=c:=⟨_,rfl⟩
      have hx2:=ba_at s (k+1) hlt2 hd
      have hki2:(k:Int)+1 < (s.length:Int):=by omega
      have hq:=Lib.hid (H.out.symm.trans (qr_esc hlt2 hc hd h92 _ _))
      have hex:=esc_ba hlt2 hd
      have hn3:((k:Int)+1+1).toNat=k+1+1:=by omega
      have i1:(k:Int)+1+1≤(s.length:Int):=by omega
      clear hk hc hd h34 h92 H
      by_cases d34:d.toNat=34
      ·have hif:(if (!escC d || wrongC d)=true then some (m+1)else none)=none:=if_neg (by simp [escC,wrongC,d34])
       have e1:((d.toNat:Int) !=34)=false:=by simp;omega
       have e2:decide ((d.toNat:Int) < 32)=false:=by simp;omega
       have e3:decide ((d.toNat:Int) > 126)=false:=by simp;omega
       have hst:=Lib.hid (show quoS (s.drop (i+(m+2))) (m+2) ⟨0,b ++ [d],bd⟩=quoS (s.drop (i+1)) 1 ⟨0,[],none⟩ from by have:=hq.out;rw [hif,orE_none]at this;rw [show i+(m+2)=k+2 by have:=HK.out;omega];exact this.symm)
       clear d34 hif
       go_wp2_with fail
       go_region
       go_wp2_with fail
       go_roundw
       case rel=> exact ⟨m+2,b ++ [d],bd,by omega,by have:=HK.out;omega,rfl,congrArg (Value.int .i64) (by have:=HK.out;omega),by rw [ba_append];first | exact HR.out.drew.set | exact HR.out.set.drew,by simp;omega,hst,hbq⟩
       case measure=> simp [intOf];omega
      ·by_cases d92:d.toNat=92
       ·have hif:(if (!escC d || wrongC d)=true then some (m+1)else none)=none:=if_neg (by simp [escC,wrongC,d92])
        have e0:((d.toNat:Int) !=34)=true:=by simp;omega
        have e1:((d.toNat:Int) !=92)=false:=by simp;omega
        have e2:decide ((d.toNat:Int) < 32)=false:=by simp;omega
        have e3:decide ((d.toNat:Int) > 126)=false:=by simp;omega
        have hst:=Lib.hid (show quoS (s.drop (i+(m+2))) (m+2) ⟨0,b ++ [d],bd⟩=quoS (s.drop (i+1)) 1 ⟨0,[],none⟩ from by have:=hq.out;rw [hif,orE_none]at this;rw [show i+(m+2)=k+2 by have:=HK.out;omega];exact this.symm)
        clear d34 d92 hif
        go_wp2_with fail
        go_region
        go_wp2_with fail
        go_roundw
        case rel=> exact ⟨m+2,b ++ [d],bd,by omega,by have:=HK.out;omega,rfl,congrArg (Value.int .i64) (by have:=HK.out;omega),by rw [ba_append];first | exact HR.out.drew.set | exact HR.out.set.drew,by simp;omega,hst,hbq⟩
        case measure=> simp [intOf];omega
       ·have hif:(if (!escC d || wrongC d)=true then some (m+1)else none)=some (m+1):=if_pos (by simp [escC,d34,d92])
        have e0:((d.toNat:Int) !=34)=true:=by simp;omega
        have e1:((d.toNat:Int) !=92)=true:=by simp;omega
        clear d34 d92
        cases bd with
        | none=>
         have hst:=Lib.hid (show quoS (s.drop (i+(m+2))) (m+2) ⟨0,b ++ [d],some (m+1)⟩=quoS (s.drop (i+1)) 1 ⟨0,[],none⟩ from by have:=hq.out;rw [hif]at this;rw [show i+(m+2)=k+2 by have:=HK.out;omega];exact this.symm)
         have hb':badI i none=-1:=rfl
         rw [hb']
         clear hb'
         go_wp2_with fail
         go_region
         go_wp2_with fail
         go_roundw
         case rel=> exact ⟨m+2,b ++ [d],some (m+1),by omega,by have:=HK.out;omega,congrArg (Value.int .i64) (by have:=HK.out;simp only [badI];omega),congrArg (Value.int .i64) (by have:=HK.out;omega),by rw [ba_append];first | exact HR.out.drew.set | exact HR.out.set.drew,by simp;omega,hst,Lib.hid (fun q h=> by have:=HK.out;injection h with h;omega)⟩
         case measure=> simp [intOf];omega
        | some q=>
         have hst:=Lib.hid (show quoS (s.drop (i+(m+2))) (m+2) ⟨0,b ++ [d],some q⟩=quoS (s.drop (i+1)) 1 ⟨0,[],none⟩ from by have:=hq.out;rw [hif]at this;rw [show i+(m+2)=k+2 by have:=HK.out;omega];exact this.symm)
         have hb':badI i (some q)=((i+q:Nat):Int):=rfl
         obtain ⟨B,hB⟩: ∃B:Nat,i+q=B:=⟨_,rfl⟩
         rw [hb',hB]
         have HB:=Lib.hid (show badI i (some q)=(B:Int) by rw [← hB];rfl)
         have hB0:decide ((B:Int) < 0)=false:=by simp
         clear hb' hB
         go_wp2_with fail
         go_region
         go_wp2_with fail
         go_roundw
         case rel=> exact ⟨m+2,b ++ [d],some q,by omega,by have:=HK.out;omega,congrArg (Value.int .i64) HB.out.symm,congrArg (Value.int .i64) (by have:=HK.out;omega),by rw [ba_append];first | exact HR.out.drew.set | exact HR.out.set.drew,by simp;omega,hst,hbq⟩
         case measure=> simp [intOf];omega
     ·have hq:=Lib.hid (H.out.symm.trans (qr_esc_end (by omega) hc h92 _ _))
      have hki2: ¬(k:Int)+1 < (s.length:Int):=by omega
      clear hk hc h34 h92 H
      go_wp2_with fail
      refine bodyPost_ret (v:= .tuple #[.agg (tk0 3 [] ⟨3,0,b⟩).toArray,.int .i64 12,.int .i64 (s.length:Int)]) (by simp [results,Tryz.results118,go_sem,tk0,z0,z1,z2,z3,z4,z5,z6,z7]) rfl ?_
      refine ⟨⟨3,[],⟨3,0,b⟩,?_,fun h=> ?_⟩,?_⟩
      ·rw [quoL_none (by rw [List.drop_drop];exact hq.out)]
       rw [if_neg (by show ¬(12:Int)=0;decide),show i+(s.drop i).length=s.length by rw [List.length_drop];omega]
      ·rw [quoL_none (by rw [List.drop_drop];exact hq.out)]at h;exact absurd (show (12:Int)=0 from h) (by decide)
      ·have:=HR.out.b
       repeat (first | (with_reducible exact Below.refl _ _) | (with_reducible assumption) | refine Below.setCell ?_ (by simp <;> omega) _ | refine Below.alloc ?_ (by simp <;> omega) _ | refine Below.drew ?_)
    ·have g92:((c.toNat:Int)==92)=false:=by simp;omega
     have hq:=Lib.hid (H.out.symm.trans (qr_go hlt hc h34 h92 _ _))
     have hex:=esc_ba hlt hc
     have hn3:((k:Int)+1).toNat=k+1:=by omega
     have i1:(k:Int)+1≤(s.length:Int):=by omega
     clear hk hc h34 h92 H
     by_cases c1:c.toNat < 32
     ·have hif:(if wrongC c=true then some m else none)=some m:=if_pos (by simp [wrongC,c1])
      have e2:decide ((c.toNat:Int) < 32)=true:=by simp;omega
      clear c1
      cases bd with
      | none=>
       have hst:=Lib.hid (show quoS (s.drop (i+(m+1))) (m+1) ⟨0,b ++ [c],some (m)⟩=quoS (s.drop (i+1)) 1 ⟨0,[],none⟩ from by have:=hq.out;rw [hif]at this;rw [show i+(m+1)=k+1 by have:=HK.out;omega];exact this.symm)
       have hb':badI i none=-1:=rfl
       rw [hb']
       clear hb'
       go_wp2_with fail
       go_region
       go_wp2_with fail
       go_roundw
       case rel=> exact ⟨m+1,b ++ [c],some (m),by omega,by have:=HK.out;omega,congrArg (Value.int .i64) (by have:=HK.out;simp only [badI];omega),congrArg (Value.int .i64) (by have:=HK.out;omega),by rw [ba_append];first | exact HR.out.drew.set | exact HR.out.set.drew,by simp;omega,hst,Lib.hid (fun q h=> by have:=HK.out;injection h with h;omega)⟩
       case measure=> simp [intOf];omega
      | some q=>
       have hst:=Lib.hid (show quoS (s.drop (i+(m+1))) (m+1) ⟨0,b ++ [c],some q⟩=quoS (s.drop (i+1)) 1 ⟨0,[],none⟩ from by have:=hq.out;rw [hif]at this;rw [show i+(m+1)=k+1 by have:=HK.out;omega];exact this.symm)
       have hb':badI i (some q)=((i+q:Nat):Int):=rfl
       obtain ⟨B,hB⟩: ∃B:Nat,i+q=B:=⟨_,rfl⟩
       rw [hb',hB]
       have HB:=Lib.hid (show badI i (some q)=(B:Int) by rw [← hB];rfl)
       have hB0:decide ((B:Int) < 0)=false:=by simp
       clear hb' hB
       go_wp2_with fail
       go_region
       go_wp2_with fail
       go_roundw
       case rel=> exact ⟨m+1,b ++ [c],some q,by omega,by have:=HK.out;omega,congrArg (Value.int .i64) HB.out.symm,congrArg (Value.int .i64) (by have:=HK.out;omega),by rw [ba_append];first | exact HR.out.drew.set | exact HR.out.set.drew,by simp;omega,hst,hbq⟩
       case measure=> simp [intOf];omega
     ·by_cases c2:c.toNat > 126
      ·have hif:(if wrongC c=true then some m else none)=some m:=if_pos (by simp [wrongC];omega)
       have e2:decide ((c.toNat:Int) < 32)=false:=by simp;omega
       have e3:decide ((c.toNat:Int) > 126)=true:=by simp;omega
       clear c1 c2
       cases bd with
       | none=>
        have hst:=Lib.hid (show quoS (s.drop (i+(m+1))) (m+1) ⟨0,b ++ [c],some (m)⟩=quoS (s.drop (i+1)) 1 ⟨0,[],none⟩ from by have:=hq.out;rw [hif]at this;rw [show i+(m+1)=k+1 by have:=HK.out;omega];exact this.symm)
        have hb':badI i none=-1:=rfl
        rw [hb']
        clear hb'
        go_wp2_with fail
        go_region
        go_wp2_with fail
        go_roundw
        case rel=> exact ⟨m+1,b ++ [c],some (m),by omega,by have:=HK.out;omega,congrArg (Value.int .i64) (by have:=HK.out;simp only [badI];omega),congrArg (Value.int .i64) (by have:=HK.out;omega),by rw [ba_append];first | exact HR.out.drew.set | exact HR.out.set.drew,by simp;omega,hst,Lib.hid (fun q h=> by have:=HK.out;injection h with h;omega)⟩
        case measure=> simp [intOf];omega
       | some q=>
        have hst:=Lib.hid (show quoS (s.drop (i+(m+1))) (m+1) ⟨0,b ++ [c],some q⟩=quoS (s.drop (i+1)) 1 ⟨0,[],none⟩ from by have:=hq.out;rw [hif]at this;rw [show i+(m+1)=k+1 by have:=HK.out;omega];exact this.symm)
        have hb':badI i (some q)=((i+q:Nat):Int):=rfl
        obtain ⟨B,hB⟩: ∃B:Nat,i+q=B:=⟨_,rfl⟩
        rw [hb',hB]
        have HB:=Lib.hid (show badI i (some q)=(B:Int) by rw [← hB];rfl)
        have hB0:decide ((B:Int) < 0)=false:=by simp
        clear hb' hB
        go_wp2_with fail
        go_region
        go_wp2_with fail
        go_roundw
        case rel=> exact ⟨m+1,b ++ [c],some q,by omega,by have:=HK.out;omega,congrArg (Value.int .i64) HB.out.symm,congrArg (Value.int .i64) (by have:=HK.out;omega),by rw [ba_append];first | exact HR.out.drew.set | exact HR.out.set.drew,by simp;omega,hst,hbq⟩
        case measure=> simp [intOf];omega
      ·have hif:(if wrongC c=true then some m else none)=none:=if_neg (by simp [wrongC];omega)
       have e2:decide ((c.toNat:Int) < 32)=false:=by simp;omega
       have e3:decide ((c.toNat:Int) > 126)=false:=by simp;omega
       have hst:=Lib.hid (show quoS (s.drop (i+(m+1))) (m+1) ⟨0,b ++ [c],bd⟩=quoS (s.drop (i+1)) 1 ⟨0,[],none⟩ from by have:=hq.out;rw [hif,orE_none]at this;rw [show i+(m+1)=k+1 by have:=HK.out;omega];exact this.symm)
       clear c1 c2 hif
       go_wp2_with fail
       go_region
       go_wp2_with fail
       go_roundw
       case rel=> exact ⟨m+1,b ++ [c],bd,by omega,by have:=HK.out;omega,rfl,congrArg (Value.int .i64) (by have:=HK.out;omega),by rw [ba_append];first | exact HR.out.drew.set | exact HR.out.set.drew,by simp;omega,hst,hbq⟩
       case measure=> simp [intOf];omega
  ·have hq:=Lib.hid (H.out.symm.trans (qr_end (by omega) _ _))
   have hki: ¬(k:Int) < (s.length:Int):=by omega
   clear hk H
   go_wp2_with fail
   refine bodyPost_ret (v:= .tuple #[.agg (tk0 3 [] ⟨3,0,b⟩).toArray,.int .i64 12,.int .i64 (s.length:Int)]) (by simp [results,Tryz.results118,go_sem,tk0,z0,z1,z2,z3,z4,z5,z6,z7]) rfl ?_
   refine ⟨⟨3,[],⟨3,0,b⟩,?_,fun h=> ?_⟩,?_⟩
   ·rw [quoL_none (by rw [List.drop_drop];exact hq.out)]
    rw [if_neg (by show ¬(12:Int)=0;decide),show i+(s.drop i).length=s.length by rw [List.length_drop];omega]
   ·rw [quoL_none (by rw [List.drop_drop];exact hq.out)]at h;exact absurd (show (12:Int)=0 from h) (by decide)
   ·have:=HR.out.b
    repeat (first | (with_reducible exact Below.refl _ _) | (with_reducible assumption) | refine Below.setCell ?_ (by simp <;> omega) _ | refine Below.alloc ?_ (by simp <;> omega) _ | refine Below.drew ?_)
end Go.Proofs.YtnbmpfdffoidaaaGreatDoor.X
namespace Go.Proofs.YtnbmpfdffoidaaaGreatDoor.V
open Go.RowKit O
theorem RB.set {w W:World}{done done':List UInt8}(h:RB w done W):RB w done' (W.setCell ⟨w.heap.size+1,2,none⟩ (.string ⟨done'.toArray⟩)):=
 ⟨(Below.heap_setCell _ _ _ _ (show w.heap.size≠w.heap.size+1 by omega)).trans h.1,by have:=h.2.1;simp [World.setCell,Array.getElem?_modify,this],h.2.2.setCell (by simp) _⟩
theorem RB.drew {w W:World}{done:List UInt8}(h:RB w done W):RB w done W.drew:=⟨h.1,h.2.1,h.2.2.drew⟩
theorem RB.next {w W W':World}{done:List UInt8}(h:RB w done W)(b:Below W.heap.size W W'):RB w done W':=⟨box_next h.1 b,box_next h.2.1 b,bthen h.2.2 b⟩
theorem KB.set {bs:List Nat}{w W:World}{p:Addr}{u:Value}(h:KB bs w W)(hne: ∀b ∈ bs,b≠p.block):KB bs w (W.setCell p u):=fun b hb=> (Below.heap_setCell _ _ _ _ (hne b hb)).trans (h b hb)
theorem unqR_len: ∀l:List UInt8,(unqR l).length≤l.length
 | []=> by simp [unqR]
 | [c]=> by simp [unqR]
 | c::d::r=> by
  have h1:=unqR_len r
  have h2:=unqR_len (d::r)
  unfold unqR
  split
  ·simp;omega
  ·simp at h2⊢;omega
theorem rparse_quote (s:List UInt8)(w:World)(hs:s.length≤1000000)(h1:(s==[116,114,117,101])=false)(h2:(s==[102,97,108,115,101])=false)(h3:2≤s.length∧s.head?.map (·.toNat)=some 34):
  Calls Tryz.prog 117 #[.string ⟨s.toArray⟩] w (RetR s w):=by
 have hsz:(ByteArray.mk s.toArray).size=s.length:=by simp [ByteArray.size]
 have hpr:parseR s=if fitP s ⟨3,0,unqR (mid s)⟩then some ⟨3,0,unqR (mid s)⟩else none:=by
  unfold parseR
  rw [if_neg (by simpa using h1),if_neg (by simpa using h2),if_pos h3]
 have hml:=mid_len s
 have Hhpr:=Lib.hid hpr;clear hpr
 have Hhml:=Lib.hid hml;clear hml
 have hA:decide ((s.length:Int) ≥ 2)=true:=by simp;omega
 have hlt0:0 < s.length:=by omega
 obtain ⟨c,hg0⟩: ∃c,s[0]=c:=⟨_,rfl⟩
 have hc0:=ba_at s 0 hlt0 hg0
 have q34:((c.toNat:Int)==34)=true:=by
  have:=h3.2
  rw [List.head?_eq_getElem?,List.getElem?_eq_getElem hlt0,hg0]at this
  simp at this⊢
  omega
 obtain ⟨h3,_⟩:=h3
 clear hg0
 go_enter Tryz.func117,Tryz.ntmps117
 go_wp2_with fail
 go_loopw [6] (fun i wr=> ∃(k:Nat) (done:List UInt8),i= .int .i64 ((k:Int)+1)∧RB w done wr∧Hid (unqR (mid s)=done ++unqR ((mid s).drop k))∧k≤(mid s).length∧done.length≤k) (fun i _=> s.length+2 - (intOf i).toNat)
 case atStart=> exact ⟨0,[],rfl,RB.start w,Lib.hid (by simp),by omega,by simp⟩
 case round=>
  obtain ⟨k,done,rfl,hR,H,hk,hdl⟩:=hrel
  obtain ⟨x0,x1,x2⟩:=cells3 hR.2.1
  have f2:wr.frozen? ⟨w.heap.size+1,2,none⟩=false:=Lib.frozen_of_heap hR.2.1 2
  have HR:=Lib.hid hR;clear hR
  have hdz:(ByteArray.mk done.toArray).size=done.length:=by simp [ByteArray.size]
  by_cases hlt:k < (mid s).length
  ·have hk1:k+1 < s.length:=by have:=Hhml.out;omega
   have hlt':decide ((k:Int)+1 < (s.length:Int) - 1)=true:=by have:=Hhml.out;simp;omega
   have hg:=mid_get hlt hk1
   obtain ⟨d,hd⟩: ∃d,s[k+1]=d:=⟨_,rfl⟩
   rw [hd]at hg
   have hx:=ba_at s (k+1) hk1 hd
   have hki:(k:Int)+1 < (s.length:Int):=by omega
   have hnat:((k:Int)+1).toNat=k+1:=by omega
   have hlm:done.length+1≤9223372036854775807:=by have:=Hhml.out;omega
   by_cases h92:d.toNat=92∧k+1 < (mid s).length
   ·obtain ⟨h92,hlt2⟩:=h92
    have hk2:k+2 < s.length:=by have:=Hhml.out;omega
    obtain ⟨d2,hd2⟩: ∃d,s[k+2]=d:=⟨_,rfl⟩
    have hg2:=mid_get hlt2 (by omega)
    rw [hd2]at hg2
    have hst:=Lib.hid (unqR_step2 hlt2 (by rw [hg];exact h92) H.out)
    rw [hg2]at hst
    have hex:=esc_ba hk2 hd2
    have hlt2':decide ((k:Int)+1+1 < (s.length:Int) - 1)=true:=by have:=Hhml.out;simp;omega
    have g92:((d.toNat:Int)==92)=true:=by simp;omega
    have hn2:((k:Int)+1+1).toNat=k+2:=by omega
    have hn3:((k:Int)+1+1+1).toNat=k+2+1:=by omega
    have i1:(k:Int)+1+1+1≤(s.length:Int):=by omega
    clear h92 hg hg2 hd hd2 H
    go_wp2_with fail
    go_region
    go_wp2_with fail
    go_roundw
    case rel=> exact ⟨k+2,done ++ [d2],by go_num,by rw [ba_append];first | exact HR.out.drew.set | exact HR.out.set.drew,hst,by omega,by simp;omega⟩
    case measure=> simp [intOf];omega
   ·have hst:=Lib.hid (unqR_step1 hlt (by rw [hg];exact h92) H.out)
    rw [hg]at hst
    have hex:=esc_ba hk1 hd
    have hn3:((k:Int)+1+1).toNat=k+1+1:=by omega
    have i1:(k:Int)+1+1≤(s.length:Int):=by omega
    have hor:((d.toNat:Int)==92)=false∨(((d.toNat:Int)==92)=true∧decide ((k:Int)+1+1 < (s.length:Int) - 1)=false):=by
     have:=Hhml.out
     by_cases e:d.toNat=92
     ·right
      have: ¬k+1 < (mid s).length:=fun h=> h92 ⟨e,h⟩
      simp;omega
     ·left;simp;omega
    clear h92 hg hd H
    rcases hor with g92 | ⟨g92,g93⟩
    all_goals
     go_wp2_with fail
     go_region
     go_wp2_with fail
     go_roundw
     case rel=> exact ⟨k+1,done ++ [d],by go_num,by rw [ba_append];first | exact HR.out.drew.set | exact HR.out.set.drew,hst,by omega,by simp;omega⟩
     case measure=> simp [intOf];omega
  ·have hlt':decide ((k:Int)+1 < (s.length:Int) - 1)=false:=by have:=Hhml.out;simp;omega
   have hen:=Lib.hid (unqR_end (by omega) H.out)
   have hul:=unqR_len (mid s)
   have hdl2:done.length≤1000000:=by have:=Hhml.out;rw [← hen.out];omega
   clear H hul
   go_wp2_with fail
   have hltb:w.heap.size+1 < wr.heap.size:=(Array.getElem?_eq_some_iff.1 HR.out.2.1).1
   refine wp_region_schedB [w.heap.size+1] [(0,true),(1,true),(2,false),(3,true),(4,true),(6,true),(5,false),(7,true),(8,true),(9,false),(10,true)] (by kernel_rfl) (by kernel_rfl) (fun _ _ d _ _ h=> by cases d <;> exact h) ?_
   refine bwith (fun W hW=> (cells3 (hW.one (show wr.drew.heap[w.heap.size+1]? =_ from HR.out.2.1)))) (fun q=> ?_)
   repeat (first | (refine brE ?_;simp only [Act.put,sA,sB,sC]) | (refine bkE ?_;simp only [Act.put,sA,sB,sC]))
   clear x0 x1 x2 f2
   cases hr:right ⟨3,0,done⟩
   ·have HP:Hid (parseR s=none):=Lib.hid (by rw [Hhpr.out,hen.out,if_neg (by rw [fitP,hr];simp)])
    refine bcall rfl rfl (fun K hK=> ?_)
    go_simp
    refine (rright_any ⟨3,0,done⟩ _ (show done.length≤_ by omega)).mono ?_;rintro e w3 ⟨rfl,b3⟩;rw [hr]
    go_wp2_with fail
    refine hK.out _ _ (by exact KB.of_below b3 (by simpa using hltb)) ?_
    clear hK K
    try simp only [Act.put,sA,sB,sC]
    have A3:=HR.out.drew.next b3
    obtain ⟨f0,f1,f2⟩:=cells3 A3.1
    have z0:w3.frozen? ⟨w.heap.size,0,none⟩=false:=Lib.frozen_of_heap A3.1 0
    have z1:w3.frozen? ⟨w.heap.size,1,none⟩=false:=Lib.frozen_of_heap A3.1 1
    have z2:w3.frozen? ⟨w.heap.size,2,none⟩=false:=Lib.frozen_of_heap A3.1 2
    have HB3:=A3.2.2
    clear A3
    try clear q
    repeat (first | (refine brE ?_;simp only [Act.put,sA,sB,sC]) | (refine bkE ?_;simp only [Act.put,sA,sB,sC]))
    refine bcall rfl rfl (fun K hK=> ?_)
    go_simp
    refine hK.out _ _ (KB.set (KB.set (KB.set (KB.refl _ _) (by simp)) (by simp)) (by simp)) ?_
    clear hK K
    try simp only [Act.put,sA,sB,sC]
    repeat (first | (refine brE ?_;simp only [Act.put,sA,sB,sC]) | (refine bkE ?_;simp only [Act.put,sA,sB,sC]))
    refine bdone ?_
    go_wp2_with fail
    refine bodyPost_ret (v:= .tuple #[vv ⟨3,0,done⟩,.bool false]) (by simp [results,Tryz.results117,go_sem,vv,f0,f1,f2]) rfl ?_
    refine ⟨_,by rw [HP.out];rfl,(fun v h=> by rw [HP.out]at h;cases h),?_⟩
    repeat (first | (with_reducible exact Below.refl _ _) | (with_reducible assumption) | refine Below.setCell ?_ (by simp <;> omega) _ | refine Below.alloc ?_ (by simp <;> omega) _ | refine Below.drew ?_)
   ·cases hp:(printV ⟨3,0,done⟩==s)
    ·have HP:Hid (parseR s=none):=Lib.hid (by rw [Hhpr.out,hen.out,if_neg (by rw [fitP,hr,hp];simp)])
     refine bcall rfl rfl (fun K hK=> ?_)
     go_simp
     refine (rright_any ⟨3,0,done⟩ _ (show done.length≤_ by omega)).mono ?_;rintro e w2 ⟨rfl,b2⟩;rw [hr]
     go_wp2_with fail
     refine hK.out _ _ (by exact KB.of_below b2 (by simpa using hltb)) ?_
     clear hK K
     try simp only [Act.put,sA,sB,sC]
     have hsz2:=b2.size
     refine bwith (fun W hW=> (cells3 (hW.one (HR.out.drew.next b2).2.1))) (fun q=> ?_)
     repeat (first | (refine brE ?_;simp only [Act.put,sA,sB,sC]) | (refine bkE ?_;simp only [Act.put,sA,sB,sC]))
     refine bcall rfl rfl (fun K hK=> ?_)
     go_simp
     refine (rprint_any ⟨3,0,done⟩ _ (show done.length≤_ by omega) (by simp) (by simp)).mono ?_;rintro e w3 ⟨rfl,b3⟩
     go_wp2_with fail
     refine hK.out _ _ (by exact KB.of_below b3 (by simp;simp at hsz2;omega)) ?_
     clear hK K
     try simp only [Act.put,sA,sB,sC]
     have A3:=(HR.out.drew.next b2).next b3
     obtain ⟨f0,f1,f2⟩:=cells3 A3.1
     have z0:w3.frozen? ⟨w.heap.size,0,none⟩=false:=Lib.frozen_of_heap A3.1 0
     have z1:w3.frozen? ⟨w.heap.size,1,none⟩=false:=Lib.frozen_of_heap A3.1 1
     have z2:w3.frozen? ⟨w.heap.size,2,none⟩=false:=Lib.frozen_of_heap A3.1 2
     have HB3:=A3.2.2
     clear A3
     try clear q
     repeat (first | (refine brE ?_;simp only [Act.put,sA,sB,sC]) | (refine bkE ?_;simp only [Act.put,sA,sB,sC]))
     refine bcall rfl rfl (fun K hK=> ?_)
     go_simp
     refine hK.out _ _ (KB.set (KB.set (KB.set (KB.refl _ _) (by simp)) (by simp)) (by simp)) ?_
     clear hK K
     try simp only [Act.put,sA,sB,sC]
     repeat (first | (refine brE ?_;simp only [Act.put,sA,sB,sC]) | (refine bkE ?_;simp only [Act.put,sA,sB,sC]))
     refine bdone ?_
     go_wp2_with fail
     refine bodyPost_ret (v:= .tuple #[vv ⟨3,0,done⟩,.bool false]) (by simp [results,Tryz.results117,go_sem,vv,f0,f1,f2]) rfl ?_
     refine ⟨_,by rw [HP.out];rfl,(fun v h=> by rw [HP.out]at h;cases h),?_⟩
     repeat (first | (with_reducible exact Below.refl _ _) | (with_reducible assumption) | refine Below.setCell ?_ (by simp <;> omega) _ | refine Below.alloc ?_ (by simp <;> omega) _ | refine Below.drew ?_)
    ·have HP:Hid (parseR s=some ⟨3,0,done⟩):=Lib.hid (by rw [Hhpr.out,hen.out,if_pos (by rw [fitP,hr,hp];rfl)])
     refine bcall rfl rfl (fun K hK=> ?_)
     go_simp
     refine (rright_any ⟨3,0,done⟩ _ (show done.length≤_ by omega)).mono ?_;rintro e w2 ⟨rfl,b2⟩;rw [hr]
     go_wp2_with fail
     refine hK.out _ _ (by exact KB.of_below b2 (by simpa using hltb)) ?_
     clear hK K
     try simp only [Act.put,sA,sB,sC]
     have hsz2:=b2.size
     refine bwith (fun W hW=> (cells3 (hW.one (HR.out.drew.next b2).2.1))) (fun q=> ?_)
     repeat (first | (refine brE ?_;simp only [Act.put,sA,sB,sC]) | (refine bkE ?_;simp only [Act.put,sA,sB,sC]))
     refine bcall rfl rfl (fun K hK=> ?_)
     go_simp
     refine (rprint_any ⟨3,0,done⟩ _ (show done.length≤_ by omega) (by simp) (by simp)).mono ?_;rintro e w3 ⟨rfl,b3⟩
     go_wp2_with fail
     refine hK.out _ _ (by exact KB.of_below b3 (by simp;simp at hsz2;omega)) ?_
     clear hK K
     try simp only [Act.put,sA,sB,sC]
     have A3:=(HR.out.drew.next b2).next b3
     obtain ⟨f0,f1,f2⟩:=cells3 A3.1
     have z0:w3.frozen? ⟨w.heap.size,0,none⟩=false:=Lib.frozen_of_heap A3.1 0
     have z1:w3.frozen? ⟨w.heap.size,1,none⟩=false:=Lib.frozen_of_heap A3.1 1
     have z2:w3.frozen? ⟨w.heap.size,2,none⟩=false:=Lib.frozen_of_heap A3.1 2
     have HB3:=A3.2.2
     clear A3
     try clear q
     repeat (first | (refine brE ?_;simp only [Act.put,sA,sB,sC]) | (refine bkE ?_;simp only [Act.put,sA,sB,sC]))
     refine bcall rfl rfl (fun K hK=> ?_)
     go_simp
     refine hK.out _ _ (KB.set (KB.set (KB.set (KB.refl _ _) (by simp)) (by simp)) (by simp)) ?_
     clear hK K
     try simp only [Act.put,sA,sB,sC]
     repeat (first | (refine brE ?_;simp only [Act.put,sA,sB,sC]) | (refine bkE ?_;simp only [Act.put,sA,sB,sC]))
     refine bdone ?_
     go_wp2_with fail
     refine bodyPost_ret (v:= .tuple #[vv ⟨3,0,done⟩,.bool true]) (by simp [results,Tryz.results117,go_sem,vv,f0,f1,f2]) rfl ?_
     refine ⟨_,by rw [HP.out];rfl,(fun v h=> by rw [HP.out]at h;injection h with h),?_⟩
     repeat (first | (with_reducible exact Below.refl _ _) | (with_reducible assumption) | refine Below.setCell ?_ (by simp <;> omega) _ | refine Below.alloc ?_ (by simp <;> omega) _ | refine Below.drew ?_)
theorem rparse_any (s:List UInt8)(w:World)(hs:s.length≤1000000):Calls Tryz.prog 117 #[.string ⟨s.toArray⟩] w (RetR s w):=by
 cases h1:(s==[116,114,117,101])
 ·cases h2:(s==[102,97,108,115,101])
  ·by_cases h3:2≤s.length∧s.head?.map (·.toNat)=some 34
   ·exact rparse_quote s w hs h1 h2 h3
   ·exact rparse_num s w hs h1 h2 h3
  ·have:s=[102,97,108,115,101]:=by simpa using h2
   subst this
   exact rparse_false w
 ·have:s=[116,114,117,101]:=by simpa using h1
  subst this
  exact rparse_true w
end Go.Proofs.YtnbmpfdffoidaaaGreatDoor.V
namespace Go.Proofs.YtnbmpfdffoidaaaGreatDoor.X
open Go.RowKit O V S
theorem kind_word1 {c:UInt8}(h:wordC c=true):decide ((kindN c:Int) ≥ 1)=true∧decide ((kindN c:Int)≤3)=true:=by
 rw [kind_word,Bool.and_eq_true,decide_eq_true_eq,decide_eq_true_eq]at h
 simp;omega
theorem kind_word0 {c:UInt8}(h:wordC c=false):decide ((kindN c:Int) ≥ 1)=false∨(decide ((kindN c:Int) ≥ 1)=true∧decide ((kindN c:Int)≤3)=false):=by
 rw [kind_word]at h
 by_cases h1:1≤kindN c
 ·right
  simp [h1]at h
  simp;omega
 ·left;simp;omega
theorem kind_cases (c:UInt8):(smallC c=true∧kindN c=1)∨(smallC c=false∧digitC c=true∧kindN c=2)∨(smallC c=false∧digitC c=false∧c.toNat=34∧kindN c=4)∨(smallC c=false∧digitC c=false∧c.toNat≠34∧kindN c≠1∧kindN c≠2∧kindN c≠4):=by
 unfold kindN
 cases h1:smallC c
 ·cases h2:digitC c
  ·by_cases h3:c.toNat=34
   ·right;right;left;simp [h3]
   ·right;right;right
    refine ⟨rfl,rfl,h3,?_⟩
    simp [h3]
    repeat' split
    all_goals simp
  ·right;left;simp
 ·left;simp
structure OB (w W:World):Prop where
 z:W.heap[w.heap.size]? =some (.cells #[.int .i64 0,.string ⟨#[]⟩,.int .i64 0,.int .i64 0,.string ⟨#[]⟩,.int .i64 0,.int .i64 0,.int .i64 0] 101 (0,0))
 t:W.heap[w.heap.size+1]? =some (.cells #[.int .i64 0,.string ⟨#[]⟩,.int .i64 0,.int .i64 0,.string ⟨#[]⟩,.int .i64 0,.int .i64 0,.int .i64 0] 101 (0,0))
 b:Below w.heap.size w W
theorem OB.start (w:World):OB w ((w.alloc (.cells #[.int .i64 0,.string ⟨#[]⟩,.int .i64 0,.int .i64 0,.string ⟨#[]⟩,.int .i64 0,.int .i64 0,.int .i64 0] 101)).alloc (.cells #[.int .i64 0,.string ⟨#[]⟩,.int .i64 0,.int .i64 0,.string ⟨#[]⟩,.int .i64 0,.int .i64 0,.int .i64 0] 101)):=
 ⟨alloc_old' (alloc_at rfl),alloc_at (by simp),by repeat (first | exact Below.refl _ _ | refine Below.alloc ?_ (by simp <;> omega) _)⟩
theorem OB.next {w W W':World}(h:OB w W)(b:Below W.heap.size W W'):OB w W':=⟨box_next h.z b,box_next h.t b,bthen h.b b⟩
theorem rone_word (s:List UInt8)(i:Nat)(w:World)(hs:s.length≤20000)(hin:i < s.length)(h1:smallC (s[i])=true):Calls Tryz.prog 61 #[.string ⟨s.toArray⟩,.int .i64 (i:Int)] w fun e w'=> RetO (tokL (s.drop i)) (s.drop i) i e∧Below w.heap.size w w':=by
 have hsz:(ByteArray.mk s.toArray).size=s.length:=by simp [ByteArray.size]
 obtain ⟨c,hc⟩: ∃c,s[i]=c:=⟨_,rfl⟩
 have hx:=ba_at s i hin hc
 have HD:Hid (s.drop i=c::s.drop (i+1)):=Lib.hid (by rw [List.drop_eq_getElem_cons hin,hc])
 have hdl:(s.drop i).length=s.length - i:=by simp
 rw [hc]at h1
 clear hc
 have hk:kindN c=1:=by unfold kindN;rw [if_pos h1]
 have HT:Hid (tokL (s.drop i)=if runLen wordC (s.drop i) > 16 then ⟨2,0,1,0,zeroV⟩else ⟨0,0,1,runLen wordC (s.drop i),zeroV⟩):=Lib.hid (by rw [HD.out,tokL_cons,if_pos h1])
 have hw1:Hid (((s.drop i).take 1).all wordC=true):=Lib.hid (by rw [HD.out];simp [wordC,h1])
 clear h1
 go_enter Tryz.func61,Tryz.ntmps61
 go_wp2_with fail
 refine (rkind_any c _).mono ?_;rintro e w1 ⟨rfl,rfl⟩
 rw [hk]
 clear hk
 go_wp2_with fail
 generalize hW0:((w.alloc (.cells #[.int .i64 0,.string ⟨#[]⟩,.int .i64 0,.int .i64 0,.string ⟨#[]⟩,.int .i64 0,.int .i64 0,.int .i64 0] 101)).alloc (.cells #[.int .i64 0,.string ⟨#[]⟩,.int .i64 0,.int .i64 0,.string ⟨#[]⟩,.int .i64 0,.int .i64 0,.int .i64 0] 101))=W0 at *
 have hO:OB w W0:=by rw [← hW0];exact OB.start w
 have HO:=Lib.hid hO
 clear hW0 hO
 go_loop [8] (fun v=> ∃m:Nat,1≤m∧i+m≤s.length∧v= .int .i64 ((i+m:Nat):Int)∧Hid (((s.drop i).take m).all wordC=true)) (fun v=> s.length - (intOf v).toNat)
 case atStart=> exact ⟨1,by omega,by omega,rfl,hw1⟩
 case round=>
  obtain ⟨m,hm1,hml,rfl,H⟩:=hrel
  obtain ⟨x0,x1,x2,x3,x4,x5,x6,x7⟩:=cells8 HO.out.t
  obtain ⟨f0,f1,f2,f3,f4,f5,f6,f7⟩:=frozen8 HO.out.t
  obtain ⟨z0,z1,z2,z3,z4,z5,z6,z7⟩:=cells8 HO.out.z
  obtain ⟨y0,y1,y2,y3,y4,y5,y6,y7⟩:=frozen8 HO.out.z
  obtain ⟨k,hk⟩: ∃k,i+m=k:=⟨_,rfl⟩
  have HK:=Lib.hid hk
  rw [hk]
  rw [hk]at hml
  by_cases hlt:k < s.length
  ·have hlt':m < (s.drop i).length:=by omega
   have hst:=Lib.hid (all_snoc (p:=wordC) hlt' H.out)
   have hno:=Lib.hid (run_step (p:=wordC) hlt' H.out)
   obtain ⟨d,hd⟩: ∃d,(s.drop i)[m]=d:=⟨_,rfl⟩
   rw [hd]at hst hno
   rw [List.getElem_drop]at hd
   have hx2:=ba_at s k hlt (by simpa only [hk]using hd)
   have hki:(k:Int) < (s.length:Int):=by omega
   clear hd hk
   cases hp:wordC d
   ·have hrl:runLen wordC (s.drop i)=m:=hno.out.trans (if_neg (by simp [hp]))
    rcases kind_word0 hp with g0 | ⟨g0,g3⟩
    ·clear hp hno hst hlt'
     have HRL:=Lib.hid hrl
     have hcut:=cut_at s i m k (by have:=HK.out;omega)
     have i1:(i:Int)≤(k:Int):=by have:=HK.out;omega
     have i2:(k:Int)≤(s.length:Int):=by have:=HK.out;omega
     have i3:i≤k:=by have:=HK.out;omega
     have hwr:IntKind.i64.wrap ((k:Int) - (i:Int))=(m:Int):=by rw [IntWalk.i64_in _ (by omega)];have:=HK.out;omega
     have hsub:(k:Int) - (i:Int)=(m:Int):=by have:=HK.out;omega
     by_cases h16:m > 16
     ·have g1:decide ((m:Int) > 16)=true:=by simp;omega
      have HR:Hid (tokL (s.drop i)=⟨2,0,1,0,zeroV⟩):=Lib.hid (by rw [HT.out,HRL.out,if_pos h16])
      clear h16 hrl
      go_wp2_with fail
      refine (rkind_any d _).mono ?_;rintro e w1 ⟨rfl,rfl⟩
      go_wp2_with fail
      refine bodyPost_ret (v:= .tuple #[.agg (tk0 1 [] zeroV).toArray,.int .i64 2,.int .i64 (i:Int)]) (by simp [results,Tryz.results61,go_sem,tk0,zeroV,z0,z1,z2,z3,z4,z5,z6,z7]) rfl ?_
      refine ⟨⟨1,[],zeroV,?_,fun h=> ?_⟩,?_⟩
      ·rw [HR.out];rfl
      ·rw [HR.out]at h;exact absurd (show (2:Int)=0 from h) (by decide)
      ·have:=HO.out.b
       repeat (first | (with_reducible exact Below.refl _ _) | (with_reducible assumption) | refine Below.setCell ?_ (by simp <;> omega) _ | refine Below.alloc ?_ (by simp <;> omega) _ | refine Below.drew ?_)
     ·have g1:decide ((m:Int) > 16)=false:=by simp;omega
      have HR:Hid (tokL (s.drop i)=⟨0,0,1,m,zeroV⟩):=Lib.hid (by rw [HT.out,HRL.out,if_neg h16])
      clear h16 hrl
      go_wp2_with fail
      refine (rkind_any d _).mono ?_;rintro e w1 ⟨rfl,rfl⟩
      go_wp2_with fail
      refine bodyPost_ret (v:= .tuple #[.agg (tk0 1 ((s.drop i).take m) zeroV).toArray,.int .i64 0,.int .i64 0]) (by simp [results,Tryz.results61,go_sem,tk0,zeroV,z0,z1,z2,z3,z4,z5,z6,z7]) rfl ?_
      refine ⟨⟨1,(s.drop i).take m,zeroV,?_,fun h=> ?_⟩,?_⟩
      ·rw [HR.out];rfl
      ·rw [HR.out];exact ⟨rfl,rfl,rfl⟩
      ·have:=HO.out.b
       repeat (first | (with_reducible exact Below.refl _ _) | (with_reducible assumption) | refine Below.setCell ?_ (by simp <;> omega) _ | refine Below.alloc ?_ (by simp <;> omega) _ | refine Below.drew ?_)
    ·clear hp hno hst hlt'
     have HRL:=Lib.hid hrl
     have hcut:=cut_at s i m k (by have:=HK.out;omega)
     have i1:(i:Int)≤(k:Int):=by have:=HK.out;omega
     have i2:(k:Int)≤(s.length:Int):=by have:=HK.out;omega
     have i3:i≤k:=by have:=HK.out;omega
     have hwr:IntKind.i64.wrap ((k:Int) - (i:Int))=(m:Int):=by rw [IntWalk.i64_in _ (by omega)];have:=HK.out;omega
     have hsub:(k:Int) - (i:Int)=(m:Int):=by have:=HK.out;omega
     by_cases h16:m > 16
     ·have g1:decide ((m:Int) > 16)=true:=by simp;omega
      have HR:Hid (tokL (s.drop i)=⟨2,0,1,0,zeroV⟩):=Lib.hid (by rw [HT.out,HRL.out,if_pos h16])
      clear h16 hrl
      go_wp2_with fail
      refine (rkind_any d _).mono ?_;rintro e w1 ⟨rfl,rfl⟩
      go_wp2_with fail
      refine (rkind_any d _).mono ?_;rintro e w1 ⟨rfl,rfl⟩
      go_wp2_with fail
      refine bodyPost_ret (v:= .tuple #[.agg (tk0 1 [] zeroV).toArray,.int .i64 2,.int .i64 (i:Int)]) (by simp [results,Tryz.results61,go_sem,tk0,zeroV,z0,z1,z2,z3,z4,z5,z6,z7]) rfl ?_
      refine ⟨⟨1,[],zeroV,?_,fun h=> ?_⟩,?_⟩
      ·rw [HR.out];rfl
      ·rw [HR.out]at h;exact absurd (show (2:Int)=0 from h) (by decide)
      ·have:=HO.out.b
       repeat (first | (with_reducible exact Below.refl _ _) | (with_reducible assumption) | refine Below.setCell ?_ (by simp <;> omega) _ | refine Below.alloc ?_ (by simp <;> omega) _ | refine Below.drew ?_)
     ·have g1:decide ((m:Int) > 16)=false:=by simp;omega
      have HR:Hid (tokL (s.drop i)=⟨0,0,1,m,zeroV⟩):=Lib.hid (by rw [HT.out,HRL.out,if_neg h16])
      clear h16 hrl
      go_wp2_with fail
      refine (rkind_any d _).mono ?_;rintro e w1 ⟨rfl,rfl⟩
      go_wp2_with fail
      refine (rkind_any d _).mono ?_;rintro e w1 ⟨rfl,rfl⟩
      go_wp2_with fail
      refine bodyPost_ret (v:= .tuple #[.agg (tk0 1 ((s.drop i).take m) zeroV).toArray,.int .i64 0,.int .i64 0]) (by simp [results,Tryz.results61,go_sem,tk0,zeroV,z0,z1,z2,z3,z4,z5,z6,z7]) rfl ?_
      refine ⟨⟨1,(s.drop i).take m,zeroV,?_,fun h=> ?_⟩,?_⟩
      ·rw [HR.out];rfl
      ·rw [HR.out];exact ⟨rfl,rfl,rfl⟩
      ·have:=HO.out.b
       repeat (first | (with_reducible exact Below.refl _ _) | (with_reducible assumption) | refine Below.setCell ?_ (by simp <;> omega) _ | refine Below.alloc ?_ (by simp <;> omega) _ | refine Below.drew ?_)
   ·obtain ⟨g0,g3⟩:=kind_word1 hp
    have hst':=Lib.hid (hst.out hp)
    clear hp
    go_wp2_with fail
    refine (rkind_any d _).mono ?_;rintro e w1 ⟨rfl,rfl⟩
    go_wp2_with fail
    refine (rkind_any d _).mono ?_;rintro e w1 ⟨rfl,rfl⟩
    go_wp2_with fail
    go_round
    case rel=> exact ⟨m+1,by omega,by have:=HK.out;omega,congrArg (Value.int .i64) (by have:=HK.out;omega),hst'⟩
    case measure=> simp [intOf];omega
  ·have hrl:runLen wordC (s.drop i)=m:=by
    have h1:=H.out
    rw [List.take_of_length_le (by omega)]at h1
    rw [run_all h1];omega
   have hki: ¬(k:Int) < (s.length:Int):=by omega
   clear hk
   have HRL:=Lib.hid hrl
   have hcut:=cut_at s i m k (by have:=HK.out;omega)
   have i1:(i:Int)≤(k:Int):=by have:=HK.out;omega
   have i2:(k:Int)≤(s.length:Int):=by have:=HK.out;omega
   have i3:i≤k:=by have:=HK.out;omega
   have hwr:IntKind.i64.wrap ((k:Int) - (i:Int))=(m:Int):=by rw [IntWalk.i64_in _ (by omega)];have:=HK.out;omega
   have hsub:(k:Int) - (i:Int)=(m:Int):=by have:=HK.out;omega
   by_cases h16:m > 16
   ·have g1:decide ((m:Int) > 16)=true:=by simp;omega
    have HR:Hid (tokL (s.drop i)=⟨2,0,1,0,zeroV⟩):=Lib.hid (by rw [HT.out,HRL.out,if_pos h16])
    clear h16 hrl
    go_wp2_with fail
    refine bodyPost_ret (v:= .tuple #[.agg (tk0 1 [] zeroV).toArray,.int .i64 2,.int .i64 (i:Int)]) (by simp [results,Tryz.results61,go_sem,tk0,zeroV,z0,z1,z2,z3,z4,z5,z6,z7]) rfl ?_
    refine ⟨⟨1,[],zeroV,?_,fun h=> ?_⟩,?_⟩
    ·rw [HR.out];rfl
    ·rw [HR.out]at h;exact absurd (show (2:Int)=0 from h) (by decide)
    ·have:=HO.out.b
     repeat (first | (with_reducible exact Below.refl _ _) | (with_reducible assumption) | refine Below.setCell ?_ (by simp <;> omega) _ | refine Below.alloc ?_ (by simp <;> omega) _ | refine Below.drew ?_)
   ·have g1:decide ((m:Int) > 16)=false:=by simp;omega
    have HR:Hid (tokL (s.drop i)=⟨0,0,1,m,zeroV⟩):=Lib.hid (by rw [HT.out,HRL.out,if_neg h16])
    clear h16 hrl
    go_wp2_with fail
    refine bodyPost_ret (v:= .tuple #[.agg (tk0 1 ((s.drop i).take m) zeroV).toArray,.int .i64 0,.int .i64 0]) (by simp [results,Tryz.results61,go_sem,tk0,zeroV,z0,z1,z2,z3,z4,z5,z6,z7]) rfl ?_
    refine ⟨⟨1,(s.drop i).take m,zeroV,?_,fun h=> ?_⟩,?_⟩
    ·rw [HR.out];rfl
    ·rw [HR.out];exact ⟨rfl,rfl,rfl⟩
    ·have:=HO.out.b
     repeat (first | (with_reducible exact Below.refl _ _) | (with_reducible assumption) | refine Below.setCell ?_ (by simp <;> omega) _ | refine Below.alloc ?_ (by simp <;> omega) _ | refine Below.drew ?_)
end Go.Proofs.YtnbmpfdffoidaaaGreatDoor.X
