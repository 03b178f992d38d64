/- Texts of the proof, joined: Builder, ValText, LexQuo, SchedB, LexTok, LexAllP, LexSame, LexAll, LexU, LexLives, LexAll2, SynPs, SchedP. -/
import Derived.Test.YtnbmpfdffoidaaaGreatDoorPr01
import Derived.Test.YtnbmpfdffoidaaaGreatDoorPr02
import Derived.Lib.Builder
import Derived.OrdersHeld
import Derived.Deep.RegionHeld
import Derived.Deep.RegionHeld3
import Derived.Deep.DeepCutAuto
set_option linter.unusedVariables false
set_option linter.unusedSimpArgs false
set_option maxHeartbeats 8000000
set_option maxRecDepth 100000
namespace Go.Proofs.YtnbmpfdffoidaaaGreatDoor
open Go.RowKit
theorem sizeBuilder:(Tryz.prog.info? 114).map (·.size)=some 2:=by kernel_rfl
theorem liesBuilder:liesAt Tryz.prog Tryz.prog.depth 114 (2 / Tryz.prog.cellsOf 114) 0 114 1=true:=by kernel_rfl
theorem copyCheck_used (b:Nat)(w:World)(h0:w.cell? ⟨b,0,none⟩=some (.pointer (some ⟨b,0,none⟩))):
  Calls Tryz.prog 115 #[.pointer (some ⟨b,0,none⟩)] w fun e w'=> e= .returned (.tuple #[])∧w'=w:=by
 obtain ⟨j,hj,_⟩:=Option.map_eq_some_iff.1 sizeBuilder
 go_enter Tryz.func115,Tryz.ntmps115
 go_wp2
 rw [Lib.run_neq_ptr_same w _ Tryz.underlying111 hj]
 go_wp2
 go_end0
 exact ⟨rfl,rfl⟩
theorem copyCheck_fresh (b:Nat)(w:World)(h0:w.cell? ⟨b,0,none⟩=some (.pointer none))(hsh:w.shape? b=some (114,2))(hfz:w.frozen? ⟨b,0,none⟩=false):
  Calls Tryz.prog 115 #[.pointer (some ⟨b,0,none⟩)] w fun e w'=> e= .returned (.tuple #[])∧w'=w.setCell ⟨b,0,none⟩ (.pointer (some ⟨b,0,none⟩)):=by
 obtain ⟨j,hj,hjs⟩:=Option.map_eq_some_iff.1 sizeBuilder
 go_enter Tryz.func115,Tryz.ntmps115
 go_wp2
 rw [Lib.run_to_unsafe w ⟨b,0,none⟩ Tryz.underlying111 Tryz.underlying175 hj (by rw [hjs];decide) hsh (Nat.zero_lt_succ 1)]
 simp only [Result.andThen]
 rw [Oper.upon_value]
 go_wp2
 rw [run_callFunc_extern Tryz.func148 (by kernel_rfl) (by kernel_rfl) (by kernel_rfl) (e:=Extern.AbiNoEscape.same) (by kernel_rfl)]
 rw [Lib.run_noEscape]
 simp only [Result.andThen]
 rw [Oper.upon_value]
 go_wp2
 rw [Lib.run_from_unsafe w ⟨b,0,none⟩ Tryz.underlying175 Tryz.underlying111 hj hsh liesBuilder]
 simp only [Result.andThen]
 rw [Oper.upon_value]
 go_wp2
 go_end0
 exact ⟨rfl,rfl⟩
theorem copyCheck_any (B b:Nat)(bs:List Value)(w:World)(h:Lib.IsBuilder 114 5 B b bs w):
  Calls Tryz.prog 115 #[.pointer (some ⟨b,0,none⟩)] w fun e w'=> e= .returned (.tuple #[])∧(Lib.BuilderAt 114 5 B b (.pointer (some ⟨b,0,none⟩)) bs w'∧Below B w w'):=by
 rcases h with h | h
 ·refine (copyCheck_fresh b w h.cell0 h.shape h.frozen0).mono ?_
  rintro e w' ⟨rfl,rfl⟩
  exact ⟨rfl,h.used _,(Below.refl B w).setCell (p:=⟨b,0,none⟩) h.1 _⟩
 ·refine (copyCheck_used b w h.cell0).mono ?_
  rintro e w' ⟨rfl,rfl⟩
  exact ⟨rfl,h,Below.refl B _⟩
theorem writeByte_any (B b:Nat)(bs:List Value)(c:Int)(w:World)(h:Lib.IsBuilder 114 5 B b bs w)(hlen:bs.length+1≤140737488355328)(hBw:B≤w.heap.size):
  Calls Tryz.prog 130 #[.pointer (some ⟨b,0,none⟩),.int .u8 c] w fun e w'=> e= .returned .nilIface∧(Lib.BuilderAt 114 5 B b (.pointer (some ⟨b,0,none⟩)) (bs ++ [.int .u8 c]) w'∧Below B w w'):=by
 obtain ⟨i0,hi,hz0,hz1,hz2⟩:=info_parts (show (Tryz.prog.info? 5).map (fun i=> (i.zero,i.size,i.bytes))=some (some (.int .u8 0),1,1) by kernel_rfl)
 go_enter Tryz.func130,Tryz.ntmps130
 go_wp2_with fail
 refine (copyCheck_any B b bs _ h).mono ?_
 rintro e w1 ⟨rfl,h1,hb1⟩
 obtain ⟨hB,v,hbk,hown,hne⟩:=h1
 have c0:w1.cell? ⟨b,0,none⟩=some (.pointer (some ⟨b,0,none⟩)):=by rw [Lib.cell_of_heap hbk];rfl
 have c1:w1.cell? ⟨b,1,none⟩=some v:=by rw [Lib.cell_of_heap hbk];rfl
 go_wp2_with (at_builtin;refine wpList_append_own _ rfl _ _ 112 rfl B 5 i0 (.int .u8 0) 1 1 Tryz.underlying112 hi hz0 hz1 hz2 rfl (by decide) _ _ _ rfl (hown.alloc _) ⟨w1.heap.size,0,none⟩ 1 1 [.int .u8 c] rfl rfl ?c1 ?c2 ?c3 ?c4 ?c5 ?_)
 case c1=>
  intro j u hj
  match j,hj with
  | 0,hj=> simp at hj;subst hj;simp [Addr.add]
 case c2=> intro u hu;simp at hu;subst hu;rfl
 case c3=> unfold maxLen;omega
 case c4=> omega
 case c5=> have:=hb1.size;simp;omega
 intro v' w2 hown' hgrow _
 have hlt:b < w1.heap.size:=by
  rcases Nat.lt_or_ge b w1.heap.size with h' | h'
  ·exact h'
  ·simp [Array.getElem?_eq_none h']at hbk
 have hb2:w2.heap[b]? =some (.cells #[.pointer (some ⟨b,0,none⟩),v] 114 (0,0)):=by
  rw [hgrow.block b (by simp;omega) (fun e=> hne e.symm),Lib.alloc_old w1 _ b hlt]
  exact hbk
 have d0:w2.cell? ⟨b,0,none⟩=some (.pointer (some ⟨b,0,none⟩)):=by rw [Lib.cell_of_heap hb2];rfl
 have d1:w2.cell? ⟨b,1,none⟩=some v:=by rw [Lib.cell_of_heap hb2];rfl
 have f1:w2.frozen? ⟨b,1,none⟩=false:=Lib.frozen_of_heap hb2 1
 obtain ⟨g,cap,rfl⟩: ∃g cap,v'= .slice (some ⟨g,0,none⟩) (bs.length+1) cap:=by
  rcases hown'.2 with ⟨_,h0⟩ | ⟨g,cap,cur,hv,_⟩
  ·omega
  ·exact ⟨g,cap,hv⟩
 go_wp2
 go_ret
 refine ⟨rfl,?_,?_⟩
 ·exact Lib.BuilderAt.put (T:=114) (e:=5) hB hb2 (bs':=bs ++ [.int .u8 c]) (by simpa using hown') (by decide)
 ·exact ((hb1.alloc (by have:=hb1.size;omega) _).grown hgrow (by have:=hb1.size;simp;omega) (fun k hk=> (hown.lt k hk).1)).setCell (p:=⟨b,1,none⟩) hB _
end Go.Proofs.YtnbmpfdffoidaaaGreatDoor
namespace Go.Proofs.YtnbmpfdffoidaaaGreatDoor.V
open Go.RowKit O
theorem dig_at (n:Nat)(h:n < 10):(ByteArray.mk #[48,49,50,51,52,53,54,55,56,57]).extract n (n+1)=ByteArray.mk (digN n).toArray:=by
 rw [digN_lt h]
 obtain rfl | rfl | rfl | rfl | rfl | rfl | rfl | rfl | rfl | rfl:n=0∨n=1∨n=2∨n=3∨n=4∨n=5∨n=6∨n=7∨n=8∨n=9:=by omega
 all_goals rfl
theorem digits_any (n:Nat): ∀w:World,n < 18446744073709551616→Calls Tryz.prog 144 #[.int .u64 n] w fun e w'=> e= .returned (.string ⟨(digN n).toArray⟩)∧Below w.heap.size w w':=by
 induction n using Nat.strongRecOn with
 | ind n ih=>
  intro w hn
  by_cases h:n < 10
  ·have hd:=Lib.hid (dig_at n h)
   go_enter Tryz.func144,Tryz.ntmps144
   go_wp2_with fail
   go_ret
   refine ⟨?_,Below.refl _ _⟩
   rw [← hd.out]
   rfl
  ·have I1:=Lib.hid (ih (n / 10) (by omega))
   have I2:=Lib.hid (ih (n % 10) (by omega))
   have hg:=Lib.hid (digN_ge (n:=n) (by omega))
   have l1:=digN_len20 (n / 10) (by omega)
   have l2:=Lib.hid (digN_lt (n:=n % 10) (by omega))
   clear ih
   go_enter Tryz.func144,Tryz.ntmps144
   go_wp2_with fail
   rw [show (n:Int) / 10=((n / 10:Nat):Int) by omega]
   refine (I1.out _ (by omega)).mono ?_;rintro e w1 ⟨rfl,b1⟩
   have hlim:(digN (n / 10)).length+(digN (n % 10)).length≤9223372036854775807:=by rw [l2.out];simp;omega
   go_wp2_with fail
   rw [show (n:Int) % 10=((n % 10:Nat):Int) by omega]
   refine (I2.out _ (by omega)).mono ?_;rintro e w2 ⟨rfl,b2⟩
   go_wp2_with fail
   go_ret
   rw [ba_append]
   exact ⟨by rw [hg.out,l2.out];rfl,bthen b1 b2⟩
theorem dec_any (n:Int)(w:World)(h1:-9223372036854775808≤n)(h2:n≤9223372036854775807):Calls Tryz.prog 109 #[.int .i64 n] w fun e w'=> e= .returned (.string ⟨(decL n).toArray⟩)∧Below w.heap.size w w':=by
 have hl:=digN_len20 n.natAbs (by omega)
 by_cases h0:n < 0
 ·have hd:Hid (decL n=[45] ++digN n.natAbs):=Lib.hid (by rw [decL,if_pos h0];rfl)
  have hlim:(1:Nat)+(digN n.natAbs).length≤9223372036854775807:=by omega
  go_enter Tryz.func109,Tryz.ntmps109
  go_wp2_with fail
  rw [show -(n+1)+1=((n.natAbs:Nat):Int) by omega]
  refine (digits_any n.natAbs _ (by omega)).mono ?_;rintro e w1 ⟨rfl,b1⟩
  go_wp2_with fail
  go_ret
  rw [show (ByteArray.mk #[45])=ByteArray.mk [45].toArray from rfl,ba_append]
  exact ⟨by rw [hd.out];rfl,b1⟩
 ·have hd:Hid (decL n=digN n.natAbs):=Lib.hid (by rw [decL,if_neg h0])
  go_enter Tryz.func109,Tryz.ntmps109
  go_wp2_with fail
  rw [show n=((n.natAbs:Nat):Int) by omega]
  refine (digits_any n.natAbs _ (by omega)).mono ?_;rintro e w1 ⟨rfl,b1⟩
  go_wp2_with fail
  go_ret
  exact ⟨by rw [hd.out];rfl,b1⟩
theorem byteCells_bv (l:List UInt8):Lib.byteCells l=bv l:=by simp [Lib.byteCells,bv]
def Bld (g:Nat)(l:List UInt8)(w:World):Prop:=Lib.IsBuilder 114 5 g g (bv l) w
theorem Bld.fresh (w:World):Bld w.heap.size [] (w.alloc (.cells #[.pointer none,.slice none 0 0] 114)):=by
 refine .inl ⟨Nat.le_refl _,.slice none 0 0,heap_alloc_new _ _,⟨rfl,.inl ⟨rfl,rfl⟩⟩,by simp [Value.ownBlock]⟩
theorem Bld.lt {g:Nat}{l:List UInt8}{w:World}(h:Bld g l w):g < w.heap.size:=by
 rcases h with h | h
 ·exact h.lt
 ·exact h.lt
theorem write_any {g:Nat}{l:List UInt8}{w:World}(h:Bld g l w)(c:UInt8){x:Int}(hx:x=(c.toNat:Int))(hl:l.length≤100000000000):
  Calls Tryz.prog 130 #[.pointer (some ⟨g,0,none⟩),.int .u8 x] w fun e w'=> e= .returned .nilIface∧Bld g (l ++ [c]) w'∧Below g w w':=by
 subst hx
 refine (writeByte_any g g (bv l) c.toNat w h (by simp;omega) (Nat.le_of_lt h.lt)).mono ?_
 rintro e w1 ⟨rfl,h1,b1⟩
 exact ⟨rfl,.inr (by simpa [bv]using h1),b1⟩
theorem string_any {g:Nat}{l:List UInt8}{w:World}(h:Bld g l w):
  Calls Tryz.prog 58 #[.pointer (some ⟨g,0,none⟩)] w fun e w'=> e= .returned (.string ⟨l.toArray⟩)∧Below g w w':=
 Tryz.Builder_String_any g g l w (by rw [byteCells_bv];exact h) (Nat.le_of_lt h.lt)
theorem esc_step {s:List UInt8}{k:Nat}(h:k < s.length):escL (s.take (k+1))=escL (s.take k) ++esc s[k]:=by
 rw [List.take_succ_eq_append_getElem h,escL_snoc]
theorem quoted_any (s:List UInt8)(w:World)(hs:s.length≤1000000000):Calls Tryz.prog 111 #[.string ⟨s.toArray⟩] w fun e w'=> e= .returned (.string ⟨(quoteL s).toArray⟩)∧Below w.heap.size w w':=by
 have hsz:(ByteArray.mk s.toArray).size=s.length:=by simp [ByteArray.size]
 go_enter Tryz.func111,Tryz.ntmps111
 go_wp2_with fail
 refine (write_any (Bld.fresh w) 34 (by decide) (by simp)).mono ?_;rintro e w1 ⟨rfl,d1,b1⟩
 have B1:Below w.heap.size w w1:=Below.trans ((Below.refl _ _).alloc (Nat.le_refl _) _) b1
 go_wp2_with fail
 go_loopw [4,8] (fun _ i wr=> ∃k:Nat,k≤s.length∧i= .int .i64 k∧Bld w.heap.size ([34] ++escL (s.take k)) wr∧Below w.heap.size w wr) (fun _ i _=> s.length - (intOf i).toNat)
 case atStart=> exact ⟨0,by omega,rfl,by simpa [escL]using d1,B1⟩
 case round=>
  obtain ⟨k,hk,rfl,hd,hb⟩:=hrel
  clear d1 b1 B1
  have hel:([34] ++escL (s.take k)).length≤10000000000:=by have:=escL_len (s.take k);simp at this⊢;omega
  by_cases hlt:k < s.length
  ·have hn:=Lib.hid (esc_step hlt)
   generalize hc:s[k]=c at hn
   have hx:=ba_at s k hlt hc
   by_cases h34:c.toNat=34∨c.toNat=92
   ·have he:Hid (esc c=[92,c]):=Lib.hid (by unfold esc;rw [if_pos h34])
    rcases h34 with h34 | h34
    ·have h34':(c.toNat:Int)=34:=by omega
     clear h34
     go_wp2_with fail
     refine (write_any hd 92 (by decide) (by omega)).mono ?_;rintro e w2 ⟨rfl,d2,b2⟩
     go_wp2_with fail
     refine (write_any d2 c (by omega) (by simp at hel⊢;omega)).mono ?_;rintro e w3 ⟨rfl,d3,b3⟩
     go_wp2_with fail
     go_roundw
     case rel=> exact ⟨k+1,by omega,by go_num,by rw [hn.out,he.out];simpa using d3,Below.trans (Below.trans hb b2) b3⟩
     case measure=> simp [intOf];omega
    ·have h34':(c.toNat:Int)=92:=by omega
     clear h34
     go_wp2_with fail
     refine (write_any hd 92 (by decide) (by omega)).mono ?_;rintro e w2 ⟨rfl,d2,b2⟩
     go_wp2_with fail
     refine (write_any d2 c (by omega) (by simp at hel⊢;omega)).mono ?_;rintro e w3 ⟨rfl,d3,b3⟩
     go_wp2_with fail
     go_roundw
     case rel=> exact ⟨k+1,by omega,by go_num,by rw [hn.out,he.out];simpa using d3,Below.trans (Below.trans hb b2) b3⟩
     case measure=> simp [intOf];omega
   ·have he:Hid (esc c=[c]):=Lib.hid (by unfold esc;rw [if_neg h34])
    have g1:((c.toNat:Int)==34)=false:=by simp;omega
    have g2:((c.toNat:Int)==92)=false:=by simp;omega
    go_wp2_with fail
    refine (write_any hd c (by omega) (by omega)).mono ?_;rintro e w3 ⟨rfl,d3,b3⟩
    go_wp2_with fail
    go_roundw
    case rel=> exact ⟨k+1,by omega,by go_num,by rw [hn.out,he.out];simpa using d3,Below.trans hb b3⟩
    case measure=> simp [intOf];omega
  ·obtain rfl:k=s.length:=by omega
   go_wp2_with fail
   refine (write_any hd 34 (by decide) (by omega)).mono ?_;rintro e w3 ⟨rfl,d3,b3⟩
   go_wp2_with fail
   refine (string_any d3).mono ?_;rintro e w4 ⟨rfl,b4⟩
   go_wp2_with fail
   go_ret
   exact ⟨by simp [quoteL],Below.trans (Below.trans hb b3) b4⟩
end Go.Proofs.YtnbmpfdffoidaaaGreatDoor.V
namespace Go.Proofs.YtnbmpfdffoidaaaGreatDoor.X
open Go.RowKit O V S
theorem quoS_cons (c:UInt8)(l:List UInt8)(k:Nat)(q:Quo):quoS (c::l) k q=if c.toNat=34 then some ⟨k,q.s,q.bad⟩else if c.toNat=92 then (match l with | []=> none | d::r=> quoS r (k+2) ⟨0,q.s ++ [d],orE q.bad (if (!escC d || wrongC d)=true then some (k+1)else none)⟩)else quoS l (k+1) ⟨0,q.s ++ [c],orE q.bad (if wrongC c=true then some k else none)⟩:=by
 match l with
 | []=>
  have h0:quoS [c] k q=if c.toNat=34 then some ⟨k,q.s,q.bad⟩else none:=by rw [quoS]
  rw [h0]
  split
  ·rfl
  ·split
   ·rfl
   ·rw [quoS]
 | d::r=> rw [quoS]
theorem quoS_nil (k:Nat)(q:Quo):quoS [] k q=none:=by rw [quoS]
section
variable {t:List UInt8} {k:Nat}
end
theorem qs_n: ∀(n:Nat) (l:List UInt8),l.length≤n→∀(k:Nat) (q q':Quo),(quoS l k q).map (·.n)=(quoS l k q').map (·.n)
 | _,[],_,k,q,q'=> by rw [quoS_nil,quoS_nil]
 | 0,c::l,h,_,_,_=> by simp at h
 | n+1,c::l,h,k,q,q'=> by
  simp at h
  rw [quoS_cons,quoS_cons c l k q']
  split
  ·rfl
  ·split
   ·match l,h with
    | [],_=> rfl
    | d::r,h=> exact qs_n n r (by simp at h;omega) _ _ _
   ·exact qs_n n l h _ _ _
theorem qs_bad: ∀(n:Nat) (l:List UInt8),l.length≤n→∀(k:Nat) (q Q:Quo) (b:Nat),q.bad=some b→quoS l k q=some Q→Q.bad=some b
 | _,[],_,k,q,Q,b,_,h=> by rw [quoS_nil]at h;cases h
 | 0,c::l,h,_,_,_,_,_,_=> by simp at h
 | n+1,c::l,h,k,q,Q,b,hb,hq=> by
  simp at h
  rw [quoS_cons]at hq
  split at hq
  ·cases hq;exact hb
  ·split at hq
   ·match l,h with
    | [],_=> cases hq
    | d::r,h=> exact qs_bad n r (by simp at h;omega) _ _ _ _ (by simp [hb,orE]) hq
   ·exact qs_bad n l h _ _ _ _ (by simp [hb,orE]) hq
theorem qs_lt: ∀(n:Nat) (l:List UInt8),l.length≤n→∀(k:Nat) (q Q:Quo),quoS l k q=some Q→k≤Q.n∧Q.n < k+l.length∧Q.s.length≤q.s.length+l.length
 | _,[],_,k,q,Q,h=> by rw [quoS_nil]at h;cases h
 | 0,c::l,h,_,_,_,_=> by simp at h
 | n+1,c::l,h,k,q,Q,hq=> by
  simp at h
  rw [quoS_cons]at hq
  split at hq
  ·cases hq;simp
  ·split at hq
   ·match l,h with
    | [],_=> cases hq
    | d::r,h=>
     have:=qs_lt n r (by simp at h;omega) _ _ _ hq
     simp at this⊢;omega
   ·have:=qs_lt n l h _ _ _ hq
    simp at this⊢;omega
theorem quoL_bad {t:List UInt8}{Q:Quo}{k:Nat}(h:quoS (t.drop 1) 1 ⟨0,[],none⟩=some Q)(hb:Q.bad=some k):quoL t=⟨10,k,3,0,zeroV⟩:=by
 unfold quoL
 rw [h]
 simp [hb]
theorem quoL_ok {t:List UInt8}{Q:Quo}(h:quoS (t.drop 1) 1 ⟨0,[],none⟩=some Q)(hb:Q.bad=none):quoL t=if Q.s.length > 32 then ⟨2,0,3,0,zeroV⟩else ⟨0,0,3,Q.n+1,⟨3,0,Q.s⟩⟩:=by
 unfold quoL
 rw [h]
 simp [hb]
end Go.Proofs.YtnbmpfdffoidaaaGreatDoor.X
namespace Go.Proofs.YtnbmpfdffoidaaaGreatDoor
open Go.RowKit
def KB (bs:List Nat)(w W:World):Prop:= ∀b ∈ bs,W.heap[b]? =w.heap[b]?
theorem KB.refl (bs:List Nat)(w:World):KB bs w w:=fun _ _=> rfl
theorem KB.trans {bs:List Nat}{a b c:World}(h:KB bs a b)(k:KB bs b c):KB bs a c:=fun x hx=> (k x hx).trans (h x hx)
theorem KB.one {b:Nat}{w W:World}(h:KB [b] w W){o:Obj}(hb:w.heap[b]? =some o):W.heap[b]? =some o:=(h b (by simp)).trans hb
theorem KB.of_below {bs:List Nat}{w W:World}(h:Below w.heap.size w W)(hb: ∀b ∈ bs,b < w.heap.size):KB bs w W:=fun b hx=> h.block b (hb b hx)
section
variable {P:Program} {ops:Array Oper} {Q:Exit→Act→World→Prop} {md:Region.Mode} {bs:List Nat}
theorem wpAnyH_impB {S S':World→Prop}(h: ∀W,S' W→S W): ∀(fuel:Nat) (listed:Array Bool) (a:Act) (w:World),wpAnyH P md ops Q S' fuel listed a w→wpAnyH P md ops Q S fuel listed a w
 | 0,_,_,_,hh=> hh
 | fuel+1,_,_,_,hh=> ⟨hh.1,fun i hi=> wpOp_mono (fun a' w' h'=> ⟨h w' h'.1,wpAnyH_impB h fuel _ a' w' h'.2⟩) (hh.2 i hi)⟩
def wpSchedB (bs:List Nat)(P:Program)(ops:Array Oper)(Q:Exit→Act→World→Prop):List (Nat × Bool)→Act→World→Prop
  | [],a,w=> Q .normal a w
  | (i,true)::rest,a,w=> ∃o,ops[i]? =some o∧
      ((Region.wanted o (yielded ops a.tmps)=true∧∃v,(∀W,KB bs w W→(execOp a.eval o).run P W= .ok (.value v) W)∧wpSchedB bs P ops Q rest (a.put o.dst v) w)∨
       (Region.wanted o (yielded ops a.tmps)=false∧wpSchedB bs P ops Q rest (a.put o.dst undef) w))
  | (i,false)::rest,a,w=> ∃o,ops[i]? =some o∧
      ((Region.wanted o (yielded ops a.tmps)=true∧o.wp P a w (fun a' w'=> KB bs w w'∧wpSchedB bs P ops Q rest a' w') Q)∨
       (Region.wanted o (yielded ops a.tmps)=false∧wpSchedB bs P ops Q rest (a.put o.dst undef) w))
def schedOkB (md:Region.Mode)(ops:Array Oper):Array Bool→List (Nat × Bool)→Bool
 | listed,[]=> (Region.ready md ops listed).isEmpty
 | listed,(i,true)::rest=> Region.free md ops listed i && (Region.ready md ops listed).contains i && schedOkB md ops (listed.setIfInBounds i true) rest
 | listed,(i,false)::rest=> (Region.ready md ops listed==[i]) && schedOkB md ops (listed.setIfInBounds i true) rest
theorem wpAnyH_schedB (hs:Region.noSelect ops=true)(hQ: ∀c a d v w,Q (.panic c) (a.put d v) w→Q (.panic c) a w):
  ∀(steps:List (Nat × Bool)) (listed:Array Bool) (a:Act) (w:World),schedOkB md ops listed steps=true→wpSchedB bs P ops Q steps a w→wpAnyH P md ops Q (KB bs w) steps.length listed a w
 | [],listed,a,w,hok,h=> ⟨by simpa [schedOkB]using hok,h⟩
 | (i,true)::rest,listed,a,w,hok,h=> by
  simp only [schedOkB,Bool.and_eq_true]at hok
  obtain ⟨⟨hf,hr⟩,hok⟩:=hok
  obtain ⟨o,hi,h⟩:=h
  rcases h with ⟨hw,v,hv,h⟩ | ⟨hw,h⟩
  ·exact wpAnyH_take (v:=v) hi hs hf hr (fun c a w=> hQ c a o.dst v w) (.inl ⟨hw,hv⟩) (KB.refl bs w) (wpAnyH_schedB hs hQ rest _ _ w hok h)
  ·exact wpAnyH_take (v:=undef) hi hs hf hr (fun c a w=> hQ c a o.dst undef w) (.inr ⟨hw,rfl⟩) (KB.refl bs w) (wpAnyH_schedB hs hQ rest _ _ w hok h)
 | (i,false)::rest,listed,a,w,hok,h=> by
  simp only [schedOkB,Bool.and_eq_true,beq_iff_eq]at hok
  obtain ⟨hr,hok⟩:=hok
  obtain ⟨o,hi,h⟩:=h
  refine wpAnyH_all hr (by simp) fun j hj=> ?_
  obtain rfl:j=i:=by simpa using hj
  unfold wpOp
  simp only [hi]
  rcases h with ⟨hw,h⟩ | ⟨hw,h⟩
  ·simp only [hw,if_true]
   refine .inl (Oper.wp_mono (fun a' w' h'=> ⟨h'.1,?_⟩) h)
   exact wpAnyH_impB (fun W hW=> KB.trans h'.1 hW) _ _ _ _ (wpAnyH_schedB hs hQ rest _ a' w' hok h'.2)
  ·simp only [hw,Bool.false_eq_true,if_false]
   exact ⟨KB.refl bs w,wpAnyH_schedB hs hQ rest _ _ w hok h⟩
theorem wp_region_schedB (bs:List Nat){id:Nat}{a:Act}{w:World}(steps:List (Nat × Bool))(hm:P.follows .mixedOrders=true)
  (hok:(Region.noSelect ops && steps.length==ops.size && schedOkB .any ops (Array.replicate ops.size false) steps)=true)
  (hQ: ∀c a d v w,Q (.panic c) (a.put d v) w→Q (.panic c) a w) (h:wpSchedB bs P ops Q steps a w.drew):(Code.region id ops true).wp P Q a w:=by
 simp only [Bool.and_eq_true,beq_iff_eq]at hok
 obtain ⟨⟨hs,hl⟩,hok⟩:=hok
 refine wp_region_held (S:=KB bs w.drew) hm ?_
 rw [← hl]
 exact wpAnyH_schedB hs hQ steps _ a w.drew (by rw [hl];exact hok) h
theorem bskip {l:List Oper}{i:Nat}{b:Bool}{rest:List (Nat × Bool)}{a:Act}{w:World}{o:Oper}(hi:l[i]? =some o)(hw:Region.wanted o (yielded l.toArray a.tmps)=false)
  (h:wpSchedB bs P l.toArray Q rest (a.put o.dst undef) w):wpSchedB bs P l.toArray Q ((i,b)::rest) a w:=by cases b <;> exact ⟨o,by simpa using hi,.inr ⟨hw,h⟩⟩
theorem bdone {a:Act}{w:World}(h:Q .normal a w):wpSchedB bs P ops Q [] a w:=h
theorem bcall {l:List Oper}{i:Nat}{rest:List (Nat × Bool)}{a:Act}{w:World}{o:Oper}(hi:l[i]? =some o)(hw:Region.wanted o (yielded l.toArray a.tmps)=true)
  (h: ∀K:Act→World→Prop,Shut (∀a' w',KB bs w w'→wpSchedB bs P l.toArray Q rest a' w'→K a' w')→o.wp P a w K Q):wpSchedB bs P l.toArray Q ((i,false)::rest) a w:=
 ⟨o,by simpa using hi,.inl ⟨hw,h _ (fun _ _ hg hk=> ⟨hg,hk⟩)⟩⟩
theorem sreadxB {l:List Oper}{i:Nat}{rest:List (Nat × Bool)}{a:Act}{w:World}{o:Oper}(hi:l[i]? =some o)(hw:Region.wanted o (yielded l.toArray a.tmps)=true)
  (h: ∃v,(∀W,KB bs w W→(execOp a.eval o).run P W= .ok (.value v) W)∧wpSchedB bs P l.toArray Q rest (a.put o.dst v) w):wpSchedB bs P l.toArray Q ((i,true)::rest) a w:=⟨o,by simpa using hi,.inl ⟨hw,h⟩⟩
theorem bwith {steps:List (Nat × Bool)}{a:Act}{w:World}{p:World→Prop}(h1: ∀W,KB bs w W→p W)(h2:(∀W,KB bs w W→p W)→wpSchedB bs P ops Q steps a w):wpSchedB bs P ops Q steps a w:=h2 h1
theorem brE {l:List Oper}{i:Nat}{rest:List (Nat × Bool)}{a:Act}{w:World}{o:Oper}{v:Value}(h:wpSchedB bs P l.toArray Q rest (a.put o.dst v) w)(hi:l[i]? =some o:=by rfl)(hw:Region.wanted o (yielded l.toArray a.tmps)=true:=by rfl)
  (h1: ∀W,KB bs w W→(execOp a.eval o).run P W= .ok (.value v) W:=by intro W hW;go_simp;try (first | with_reducible rfl | (rw [if_neg (by omega)];try with_reducible rfl))):wpSchedB bs P l.toArray Q ((i,true)::rest) a w:=sreadxB hi hw ⟨v,h1,h⟩
theorem bkE {l:List Oper}{i:Nat}{b:Bool}{rest:List (Nat × Bool)}{a:Act}{w:World}{o:Oper}(h:wpSchedB bs P l.toArray Q rest (a.put o.dst undef) w)(hi:l[i]? =some o:=by rfl)(hw:Region.wanted o (yielded l.toArray a.tmps)=false:=by rfl):wpSchedB bs P l.toArray Q ((i,b)::rest) a w:=bskip hi hw h
end
end Go.Proofs.YtnbmpfdffoidaaaGreatDoor
namespace Go.Proofs.YtnbmpfdffoidaaaGreatDoor.X
open Go.RowKit O V S
def tkCells (k:Int)(x:List UInt8)(v:Val)(s:List UInt8)(i:Nat):List Value:=[.int .i64 k,.string ⟨x.toArray⟩,.int .i64 v.k,.int .i64 v.n,.string ⟨v.s.toArray⟩,.int .i64 (i:Int),.int .i64 (lineOf s i:Int),.int .i64 ((i:Int) - (startOf s i:Int)+1)]
theorem tokL_cons (c:UInt8)(r:List UInt8):tokL (c::r)=if smallC c then (if runLen wordC (c::r) > 16 then ⟨2,0,1,0,zeroV⟩else ⟨0,0,1,runLen wordC (c::r),zeroV⟩)
  else if digitC c then (if numOk ((c::r).take (runLen digitC (c::r)))then ⟨0,0,2,runLen digitC (c::r),⟨1,(numV ((c::r).take (runLen digitC (c::r))):Nat),[]⟩⟩else ⟨11,0,2,0,zeroV⟩)
  else if c.toNat=34 then quoL (c::r)
  else if signL (c::r)=0 then ⟨10,0,4,0,zeroV⟩else ⟨0,0,4,signL (c::r),zeroV⟩:=rfl
theorem sign_le: ∀t:List UInt8,0 < t.length→signL t≤t.length
 | [c],_=> by
  have e:signL [c]=if one c.toNat then 1 else 0:=rfl
  rw [e];split <;> simp
 | c::d::r,_=> by
  have e:signL (c::d::r)=if two c.toNat d.toNat then 2 else if one c.toNat then 1 else 0:=rfl
  rw [e]
  split
  ·simp
  ·split <;> simp
theorem cells8 {W:World}{b:Nat}{x0 x1 x2 x3 x4 x5 x6 x7:Value}{T:TypeId}(h:W.heap[b]? =some (.cells #[x0,x1,x2,x3,x4,x5,x6,x7] T (0,0))):W.cell? ⟨b,0,none⟩=some x0∧W.cell? ⟨b,1,none⟩=some x1∧W.cell? ⟨b,2,none⟩=some x2∧W.cell? ⟨b,3,none⟩=some x3∧W.cell? ⟨b,4,none⟩=some x4∧W.cell? ⟨b,5,none⟩=some x5∧W.cell? ⟨b,6,none⟩=some x6∧W.cell? ⟨b,7,none⟩=some x7:=by
 refine ⟨?_,?_,?_,?_,?_,?_,?_,?_⟩ <;> (rw [Lib.cell_of_heap h];rfl)
theorem frozen8 {W:World}{b:Nat}{cs:Array Value}{T:TypeId}(h:W.heap[b]? =some (.cells cs T (0,0))):W.frozen? ⟨b,0,none⟩=false∧W.frozen? ⟨b,1,none⟩=false∧W.frozen? ⟨b,2,none⟩=false∧W.frozen? ⟨b,3,none⟩=false∧W.frozen? ⟨b,4,none⟩=false∧W.frozen? ⟨b,5,none⟩=false∧W.frozen? ⟨b,6,none⟩=false∧W.frozen? ⟨b,7,none⟩=false:=
 ⟨Lib.frozen_of_heap h 0,Lib.frozen_of_heap h 1,Lib.frozen_of_heap h 2,Lib.frozen_of_heap h 3,Lib.frozen_of_heap h 4,Lib.frozen_of_heap h 5,Lib.frozen_of_heap h 6,Lib.frozen_of_heap h 7⟩
end Go.Proofs.YtnbmpfdffoidaaaGreatDoor.X
namespace Go.Proofs.YtnbmpfdffoidaaaGreatDoor.X
open Go.RowKit O V S
theorem tokL_pos (t:List UInt8)(h:(tokL t).e=0):0 < (tokL t).n∧(tokL t).n≤t.length:=by
 match t with
 | []=> simp [tokL]at h
 | c::r=>
  rw [tokL_cons]at h⊢
  split
  ·rename_i hs
   rw [if_pos hs]at h
   split
   ·rename_i hb;rw [if_pos hb]at h;simp at h
   ·have hw:wordC c=true:=by simp [wordC,hs]
    refine ⟨?_,runLen_le wordC (c::r)⟩
    simp only [runLen,hw,if_true];omega
  ·rename_i hs
   rw [if_neg hs]at h
   split
   ·rename_i hd
    rw [if_pos hd]at h
    split
    ·refine ⟨?_,runLen_le digitC (c::r)⟩
     simp only [runLen,hd,if_true];omega
    ·rename_i hb;rw [if_neg hb]at h;simp at h
   ·rename_i hd
    rw [if_neg hd]at h
    split
    ·rename_i hq
     rw [if_pos hq]at h
     cases hQ:quoS ((c::r).drop 1) 1 ⟨0,[],none⟩with
     | none=> unfold quoL at h;rw [hQ]at h;simp at h
     | some Q=>
      cases hb:Q.bad with
      | some k=> rw [quoL_bad hQ hb]at h;simp at h
      | none=>
       have h1:=quoL_ok hQ hb
       have h2:=(qs_lt _ _ (Nat.le_refl _) _ _ _ hQ).2.1
       simp at h2
       rw [h1]at h⊢
       split
       ·rename_i hbig;rw [if_pos hbig]at h;simp at h
       ·simp;omega
    ·rename_i hq
     rw [if_neg hq]at h
     split
     ·rename_i h0;rw [if_pos h0]at h;simp at h
     ·rename_i h0
      exact ⟨by show 0 < signL (c::r);omega,sign_le (c::r) (by simp)⟩
theorem tokE:Elem Tryz.prog 46 101 8 80 (.agg #[.int .i64 0,.string ByteArray.empty,.int .i64 0,.int .i64 0,.string ByteArray.empty,.int .i64 0,.int .i64 0,.int .i64 0]):=by
 obtain ⟨i,hi,h1,h2,h3⟩:=info_parts (show (Tryz.prog.info? 101).map (fun i=> (i.zero,i.size,i.bytes))=some (some (.agg #[.int .i64 0,.string ByteArray.empty,.int .i64 0,.int .i64 0,.string ByteArray.empty,.int .i64 0,.int .i64 0,.int .i64 0]),8,80) by kernel_rfl)
 exact ⟨Tryz.underlying46,i,hi,h1,h2,h3,rfl,by omega⟩
def TkC (s:List UInt8)(t:Tk)(vs:List Value):Prop:=vs=tkCells t.k t.text t.v s t.i
end Go.Proofs.YtnbmpfdffoidaaaGreatDoor.X
namespace Go.Proofs.YtnbmpfdffoidaaaGreatDoor.X
open Go.RowKit O V S
theorem Val.same {x y:Val}(h1:x.k=y.k)(h2:x.n=y.n)(h3:x.s=y.s):x=y:=by cases x;cases y;simp_all
instance:DecidableEq Val:=fun a b=> if h:a.k=b.k∧a.n=b.n∧a.s=b.s then isTrue (Val.same h.1 h.2.1 h.2.2)else isFalse (fun e=> h (by subst e;exact ⟨rfl,rfl,rfl⟩))
def core (t:Tk):Int × List UInt8 × Val:=(t.k,t.text,t.v)
def TkD (t:Tk)(vs:List Value):Prop:= ∃p q r:Int,vs=[.int .i64 t.k,.string ⟨t.text.toArray⟩,.int .i64 t.v.k,.int .i64 t.v.n,.string ⟨t.v.s.toArray⟩,.int .i64 p,.int .i64 q,.int .i64 r]
theorem TkD.of {s:List UInt8}: ∀(t:Tk) (vs:List Value),TkC s t vs→TkD t vs:=by rintro t vs rfl;exact ⟨_,_,_,rfl⟩
theorem vneq_yes {x y:Val}(h:x≠y)(w:World):(binOp .neq 57 (.agg #[.int .i64 x.k,.int .i64 x.n,.string ⟨x.s.toArray⟩]) (.agg #[.int .i64 y.k,.int .i64 y.n,.string ⟨y.s.toArray⟩])).run Tryz.prog w= .ok (.bool true) w:=by
 go_simp
 exact fun h1 h2 h3=> h (Val.same h1 h2 h3)
theorem vneq_no (x:Val)(w:World):(binOp .neq 57 (.agg #[.int .i64 x.k,.int .i64 x.n,.string ⟨x.s.toArray⟩]) (.agg #[.int .i64 x.k,.int .i64 x.n,.string ⟨x.s.toArray⟩])).run Tryz.prog w= .ok (.bool false) w:=by
 go_simp
theorem sneq_yes {x y:List UInt8}(h:x≠y)(w:World):(binOp .neq 9 (.string ⟨x.toArray⟩) (.string ⟨y.toArray⟩)).run Tryz.prog w= .ok (.bool true) w:=by
 go_simp
theorem sneq_no (x:List UInt8)(w:World):(binOp .neq 9 (.string ⟨x.toArray⟩) (.string ⟨x.toArray⟩)).run Tryz.prog w= .ok (.bool false) w:=by
 go_simp
end Go.Proofs.YtnbmpfdffoidaaaGreatDoor.X
namespace Go.Proofs.YtnbmpfdffoidaaaGreatDoor.X
open Go.RowKit O V S
theorem skip_at {s:List UInt8}{i:Nat}(h:i≤s.length):skip (s.drop i)=s.drop (s.length - (skip (s.drop i)).length)∧i≤s.length - (skip (s.drop i)).length∧s.length - (skip (s.drop i)).length≤s.length:=by
 obtain ⟨k,hk,e⟩:=skip_suffix _ (s.drop i) (Nat.le_refl _)
 rw [List.length_drop]at hk
 have hj:s.length - (skip (s.drop i)).length=i+k:=by rw [e];simp;omega
 rw [hj]
 exact ⟨by rw [e,List.drop_drop],by omega,by omega⟩
section
variable {s:List UInt8} {i j f:Nat}
theorem lex_end (hj:s.length - (skip (s.drop i)).length=s.length):lexS s (f+1) i=([],0,0):=by
 rcases Nat.eq_zero_or_pos (skip (s.drop i)).length with h | h
 ·unfold lexS;simp only [h,if_true]
 ·have hs:s.length=0:=by omega
  have:(skip (s.drop i)).length=0:=by
   have:=skip_len _ (s.drop i) (Nat.le_refl _)
   simp at this;omega
  omega
theorem lex_err (hi:i≤s.length)(hj:s.length - (skip (s.drop i)).length=j)(hlt:j < s.length)(he:(tokL (s.drop j)).e≠0):lexS s (f+1) i=([],(tokL (s.drop j)).e,j+(tokL (s.drop j)).off):=by
 have h1:=(skip_at hi).1
 have h0:(skip (s.drop i)).length≠0:=by omega
 rw [hj]at h1
 unfold lexS
 simp only [h0,if_false,hj]
 rw [h1,if_pos he]
theorem lex_ok (hi:i≤s.length)(hj:s.length - (skip (s.drop i)).length=j)(hlt:j < s.length)(he:(tokL (s.drop j)).e=0):lexS s (f+1) i=(⟨(tokL (s.drop j)).k,(s.drop j).take (tokL (s.drop j)).n,(tokL (s.drop j)).v,j⟩::(lexS s f (j+(tokL (s.drop j)).n)).1,(lexS s f (j+(tokL (s.drop j)).n)).2):=by
 have h1:=(skip_at hi).1
 have h0:(skip (s.drop i)).length≠0:=by omega
 rw [hj]at h1
 conv=> lhs;unfold lexS
 simp only [h0,if_false,hj]
 rw [h1,if_neg (by simp [he])]
end
theorem own_keepL {w w':World}{base e size n g:Nat}{v:Value}{xs:List Value}(h:w.ownsRow base e size v n xs)(hg:w.grownBy w' (some g))(hb:g < base):w'.ownsRow base e size v n xs:=
 h.kept hg (.inr (fun e=> by have:=(h.lt _ e).1;omega))
theorem own_setL {w:World}{base e size n b j:Nat}{v:Value}{xs:List Value}(h:w.ownsRow base e size v n xs)(u:Value)(hb:b < base):(w.setCell ⟨b,j,none⟩ u).ownsRow base e size v n xs:=
 own_keepL h (gb_set w b j u) hb
end Go.Proofs.YtnbmpfdffoidaaaGreatDoor.X
namespace Go.Proofs.YtnbmpfdffoidaaaGreatDoor.X
open Go.RowKit O V S
theorem tokL_off (v:List UInt8):(tokL v).off≤v.length:=by
 match v with
 | []=> simp [tokL]
 | c::r=>
  rw [tokL_cons]
  split
  ·split <;> simp
  ·split
   ·split <;> simp
   ·split
    ·cases hq:quoS ((c::r).drop 1) 1 ⟨0,[],none⟩with
     | none=> unfold quoL;rw [hq];simp
     | some Q=>
      cases hb:Q.bad with
      | some k=>
       rw [quoL_bad hq hb]
       have: ∀(n:Nat) (l:List UInt8),l.length≤n→∀(k:Nat) (q Q:Quo) (b:Nat),(∀b',q.bad=some b'→b'≤k)→quoS l k q=some Q→Q.bad=some b→b≤k+l.length:=by
        intro n
        induction n with
        | zero=>
         intro l hl k q Q b _ h _
         cases l with
         | nil=> rw [quoS_nil]at h;cases h
         | cons _ _=> simp at hl
        | succ n ih=>
         intro l hl k q Q b hqb h hbb
         match l,hl with
         | [],_=> rw [quoS_nil]at h;cases h
         | x::l,hl=>
          simp at hl
          rw [quoS_cons]at h
          split at h
          ·cases h;have:=hqb b hbb;simp;omega
          ·split at h
           ·match l,hl with
            | [],_=> cases h
            | d::r,hl=>
             have:=ih r (by simp at hl;omega) (k+2) _ _ b ?_ h hbb
             ·simp;omega
             ·intro b' hb'
              cases hqq:q.bad with
              | some b0=> simp [orE,hqq]at hb';have:=hqb b0 hqq;omega
              | none=> simp [orE,hqq]at hb';omega
           ·have:=ih l hl (k+1) _ _ b ?_ h hbb
            ·simp;omega
            ·intro b' hb'
             cases hqq:q.bad with
             | some b0=> simp [orE,hqq]at hb';have:=hqb b0 hqq;omega
             | none=> simp [orE,hqq]at hb';omega
       have:=this _ _ (Nat.le_refl _) 1 ⟨0,[],none⟩ Q k (by simp) hq hb
       simp at this⊢
       omega
      | none=>
       rw [quoL_ok hq hb]
       split <;> simp
    ·split <;> simp
inductive LexU:List UInt8→List (Int × List UInt8 × Val)→Int→Nat→Prop
 | fin {u:List UInt8} (h:skip u=[]):LexU u [] 0 0
 | err {u v:List UInt8} (h:skip u=v) (hv:v≠[]) (he:(tokL v).e≠0):LexU u [] (tokL v).e (v.length - (tokL v).off)
 | tok {u v:List UInt8} {l:List (Int × List UInt8 × Val)} {e:Int} {o:Nat} (h:skip u=v) (hv:v≠[]) (he:(tokL v).e=0) (hr:LexU (v.drop (tokL v).n) l e o):LexU u (((tokL v).k,v.take (tokL v).n,(tokL v).v)::l) e o
theorem LexU.det {u:List UInt8}{l:List (Int × List UInt8 × Val)}{e:Int}{o:Nat}(h:LexU u l e o): ∀{l':List (Int × List UInt8 × Val)} {e':Int} {o':Nat},LexU u l' e' o'→l=l'∧e=e'∧o=o':=by
 induction h with
 | fin h=>
  intro l' e' o' k
  cases k with
  | fin _=> exact ⟨rfl,rfl,rfl⟩
  | err h' hv _=> exact absurd (h'.symm.trans h) hv
  | tok h' hv _ _=> exact absurd (h'.symm.trans h) hv
 | err h hv he=>
  intro l' e' o' k
  cases k with
  | fin h'=> exact absurd (h.symm.trans h') hv
  | err h' _ _=> have:=h.symm.trans h';subst this;exact ⟨rfl,rfl,rfl⟩
  | tok h' _ he' _=> have:=h.symm.trans h';subst this;exact absurd he' he
 | tok h hv he _ ih=>
  intro l' e' o' k
  cases k with
  | fin h'=> exact absurd (h.symm.trans h') hv
  | err h' _ he'=> have:=h.symm.trans h';subst this;exact absurd he he'
  | tok h' _ _ hr'=>
   have:=h.symm.trans h';subst this
   obtain ⟨e1,e2,e3⟩:=ih hr'
   exact ⟨by rw [e1],e2,e3⟩
theorem lexU_of (s:List UInt8): ∀f i,i≤s.length→s.length+1≤f+i→∃o,LexU (s.drop i) ((lexS s f i).1.map core) (lexS s f i).2.1 o∧((lexS s f i).2.1≠0→(lexS s f i).2.2+o=s.length)
 | 0,i,hi,hf=> by omega
 | f+1,i,hi,hf=> by
  obtain ⟨hs1,hs2,hs3⟩:=skip_at hi
  obtain ⟨j,hj⟩: ∃j,s.length - (skip (s.drop i)).length=j:=⟨_,rfl⟩
  rw [hj]at hs1 hs2 hs3
  by_cases hend:j=s.length
  ·have:=lex_end (f:=f) (hj.trans hend)
   rw [this]
   refine ⟨0,.fin ?_,fun h=> absurd rfl h⟩
   rw [hs1,hend,List.drop_length]
  ·have hlt:j < s.length:=by omega
   have hv:s.drop j≠[]:=by
    intro e;have:=congrArg List.length e;simp at this;omega
   by_cases he:(tokL (s.drop j)).e=0
   ·rw [lex_ok (f:=f) hi hj hlt he]
    have hp:=tokL_pos _ he
    rw [List.length_drop]at hp
    obtain ⟨o,h1,h2⟩:=lexU_of s f (j+(tokL (s.drop j)).n) (by omega) (by omega)
    rw [← List.drop_drop]at h1
    exact ⟨o,.tok hs1 hv he h1,h2⟩
   ·rw [lex_err (f:=f) hi hj hlt he]
    have:=tokL_off (s.drop j)
    rw [List.length_drop]at this
    exact ⟨_,.err hs1 hv he,fun _=> by simp only [List.length_drop];omega⟩
theorem LexU.lex {s:List UInt8}{l:List (Int × List UInt8 × Val)}{e:Int}{o:Nat}(h:LexU s l e o):(lexS s (s.length+1) 0).1.map core=l∧(lexS s (s.length+1) 0).2.1=e∧(e≠0→(lexS s (s.length+1) 0).2.2+o=s.length):=by
 obtain ⟨o',h1,h2⟩:=lexU_of s (s.length+1) 0 (by omega) (by omega)
 obtain ⟨e1,e2,e3⟩:=LexU.det h1 h
 exact ⟨e1,e2,fun he=> by rw [← e3];exact h2 (by rw [e2];exact he)⟩
theorem LexU.of_lex (s:List UInt8): ∃o,LexU s ((lexS s (s.length+1) 0).1.map core) (lexS s (s.length+1) 0).2.1 o∧((lexS s (s.length+1) 0).2.1≠0→(lexS s (s.length+1) 0).2.2+o=s.length):=
 lexU_of s (s.length+1) 0 (by omega) (by omega)
def joinB:List (List UInt8)→List UInt8
 | []=> []
 | [x]=> x
 | x::y::r=> x ++32::joinB (y::r)
end Go.Proofs.YtnbmpfdffoidaaaGreatDoor.X
namespace Go.Proofs.YtnbmpfdffoidaaaGreatDoor.X
open Go.RowKit O V S
theorem cells3p {W:World}{g:Nat}{x y z:Value}{T:TypeId}(h:W.heap[g]? =some (.cells #[x,y,z] T (0,0))):W.cell? ⟨g,0,none⟩=some x∧W.cell? ⟨g,1,none⟩=some y∧W.cell? ⟨g,2,none⟩=some z:=
 ⟨by rw [Lib.cell_of_heap h];rfl,by rw [Lib.cell_of_heap h];rfl,by rw [Lib.cell_of_heap h];rfl⟩
theorem rat_any (s:List UInt8)(off:Int)(w:World)(hs:s.length≤20000):Calls Tryz.prog 27 #[.string ⟨s.toArray⟩,.int .i64 off] w fun e w'=> e= .returned (plc s (clampI s off))∧Below w.heap.size w w':=by
 have hsz:(ByteArray.mk s.toArray).size=s.length:=by simp [ByteArray.size]
 go_enter Tryz.func27,Tryz.ntmps27
 go_wp2_with fail
 go_loopw [] (fun wr=> ∃i:Nat,i≤s.length∧((i:Int)≤off∨i=0)∧wr.heap[w.heap.size+1]? =some (.cells #[.int .i64 (i:Int),.int .i64 (lineOf s i:Int),.int .i64 ((i:Int) - (startOf s i:Int)+1)] 28 (0,0))∧wr.heap[w.heap.size]? =some (.cells #[.int .i64 0,.int .i64 0,.int .i64 0] 28 (0,0))∧Below w.heap.size w wr) (fun wr=> s.length - offW wr (w.heap.size+1))
 case atStart=>
  refine ⟨0,by omega,.inr rfl,?_,?_,?_⟩
  ·have:=heap_alloc_new (w.alloc (.cells #[.int .i64 0,.int .i64 0,.int .i64 0] 28)) (.cells #[.int .i64 0,.int .i64 1,.int .i64 1] 28)
   simpa [lineOf,startOf]using this
  ·exact box_next (heap_alloc_new w (.cells #[.int .i64 0,.int .i64 0,.int .i64 0] 28)) ((Below.refl _ _).alloc (Nat.le_refl _) _)
  ·repeat (first | (with_reducible exact Below.refl _ _) | (with_reducible assumption) | refine Below.setCell ?_ (by simp <;> omega) _ | refine Below.alloc ?_ (by simp <;> omega) _ | refine Below.drew ?_)
 case round=>
  obtain ⟨i,hi,ho,hX,hZ,hB⟩:=hrel
  have hlo:=lineOf_le s i
  have hso:=startOf_le s i
  obtain ⟨k0,k1,k2⟩:=cells3p hX
  have f0:=Lib.frozen_of_heap hX 0
  have f1:=Lib.frozen_of_heap hX 1
  have f2:=Lib.frozen_of_heap hX 2
  obtain ⟨z0,z1,z2⟩:=cells3p hZ
  have y0:=Lib.frozen_of_heap hZ 0
  have y1:=Lib.frozen_of_heap hZ 1
  have y2:=Lib.frozen_of_heap hZ 2
  have hof:offW wr (w.heap.size+1)=i:=by unfold offW;rw [k0];simp
  have HOF:=Lib.hid hof
  clear hof
  by_cases h1:(i:Int) < off
  ·have d1:decide ((i:Int) < off)=true:=by simpa using h1
   by_cases h2:i < s.length
   ·have d2:decide ((i:Int) < (s.length:Int))=true:=by simpa using h2
    obtain ⟨c,hc⟩: ∃c,s[i]=c:=⟨_,rfl⟩
    have hx:=ba_at s i h2 hc
    have hgd:s.getD i 0=c:=by rw [List.getD_eq_getElem?_getD,List.getElem?_eq_getElem h2,← hc];rfl
    have HL:=Lib.hid (show lineOf s (i+1)=if (s.getD i 0).toNat=10 then lineOf s i+1 else lineOf s i from rfl)
    have HS:=Lib.hid (show startOf s (i+1)=if (s.getD i 0).toNat=10 then i+1 else startOf s i from rfl)
    rw [hgd]at HL HS
    clear hgd hc
    by_cases h10:c.toNat=10
    ·have e1:((c.toNat:Int)==10)=true:=by simp;omega
     rw [if_pos h10]at HL HS
     have H10:=Lib.hid h10
     clear h10
     go_wp2_with fail
     go_roundw
     case rel=>
      refine ⟨i+1,by omega,.inl (by omega),?_,?_,?_⟩
      ·rw [HL.out,HS.out]
       have:=heap_set (i:=0) (heap_set (i:=2) (heap_set (i:=1) (heap_set (i:=2) hX (.int .i64 ((i:Int) - (startOf s i:Int)+1+1))) (.int .i64 ((lineOf s i:Int)+1))) (.int .i64 1)) (.int .i64 ((i:Int)+1))
       rw [this]
       simp
      ·exact (Below.heap_setCell _ _ _ _ (show w.heap.size≠w.heap.size+1 by omega)).trans ((Below.heap_setCell _ _ _ _ (show w.heap.size≠w.heap.size+1 by omega)).trans ((Below.heap_setCell _ _ _ _ (show w.heap.size≠w.heap.size+1 by omega)).trans ((Below.heap_setCell _ _ _ _ (show w.heap.size≠w.heap.size+1 by omega)).trans hZ)))
      ·repeat (first | (with_reducible exact Below.refl _ _) | (with_reducible assumption) | refine Below.setCell ?_ (by simp <;> omega) _ | refine Below.alloc ?_ (by simp <;> omega) _ | refine Below.drew ?_)
     case measure=>
      rw [HOF.out]
      have:=heap_set (i:=0) (heap_set (i:=2) (heap_set (i:=1) (heap_set (i:=2) hX (.int .i64 ((i:Int) - (startOf s i:Int)+1+1))) (.int .i64 ((lineOf s i:Int)+1))) (.int .i64 1)) (.int .i64 ((i:Int)+1))
      unfold offW
      rw [Lib.cell_of_heap this]
      simp
      omega
    ·have e1:((c.toNat:Int)==10)=false:=by simp;omega
     rw [if_neg h10]at HL HS
     have H10:=Lib.hid h10
     clear h10
     go_wp2_with fail
     go_roundw
     case rel=>
      refine ⟨i+1,by omega,.inl (by omega),?_,?_,?_⟩
      ·rw [HL.out,HS.out]
       have:=heap_set (i:=0) (heap_set (i:=2) hX (.int .i64 ((i:Int) - (startOf s i:Int)+1+1))) (.int .i64 ((i:Int)+1))
       rw [this]
       simp
       omega
      ·exact (Below.heap_setCell _ _ _ _ (show w.heap.size≠w.heap.size+1 by omega)).trans ((Below.heap_setCell _ _ _ _ (show w.heap.size≠w.heap.size+1 by omega)).trans hZ)
      ·repeat (first | (with_reducible exact Below.refl _ _) | (with_reducible assumption) | refine Below.setCell ?_ (by simp <;> omega) _ | refine Below.alloc ?_ (by simp <;> omega) _ | refine Below.drew ?_)
     case measure=>
      rw [HOF.out]
      have:=heap_set (i:=0) (heap_set (i:=2) hX (.int .i64 ((i:Int) - (startOf s i:Int)+1+1))) (.int .i64 ((i:Int)+1))
      unfold offW
      rw [Lib.cell_of_heap this]
      simp
      omega
   ·have d2:decide ((i:Int) < (s.length:Int))=false:=by simpa using h2
    have hcl:clampI s off=i:=by unfold clampI;rw [if_neg (by omega)];split <;> omega
    have HC:=Lib.hid hcl
    clear hcl
    go_wp2_with fail
    refine bodyPost_ret (v:=plc s i) (by simp [results,Tryz.results27,go_sem,plc,pv,z0,z1,z2]) rfl ?_
    refine ⟨by rw [HC.out],?_⟩
    repeat (first | (with_reducible exact Below.refl _ _) | (with_reducible assumption) | refine Below.setCell ?_ (by simp <;> omega) _ | refine Below.alloc ?_ (by simp <;> omega) _ | refine Below.drew ?_)
  ·have d1:decide ((i:Int) < off)=false:=by simpa using h1
   have hcl:clampI s off=i:=by
    unfold clampI
    rcases ho with ho | ho
    ·split
     ·omega
     ·split <;> omega
    ·subst ho
     split
     ·rfl
     ·split <;> omega
   have HC:=Lib.hid hcl
   clear hcl
   go_wp2_with fail
   refine bodyPost_ret (v:=plc s i) (by simp [results,Tryz.results27,go_sem,plc,pv,z0,z1,z2]) rfl ?_
   refine ⟨by rw [HC.out],?_⟩
   repeat (first | (with_reducible exact Below.refl _ _) | (with_reducible assumption) | refine Below.setCell ?_ (by simp <;> omega) _ | refine Below.alloc ?_ (by simp <;> omega) _ | refine Below.drew ?_)
end Go.Proofs.YtnbmpfdffoidaaaGreatDoor.X
namespace Go.Proofs.YtnbmpfdffoidaaaGreatDoor.X
open Go.RowKit O V S
theorem LexU.len {u:List UInt8}{l:List (Int × List UInt8 × Val)}{e:Int}{o:Nat}(h:LexU u l e o):l.length≤u.length:=by
 induction h with
 | fin _=> simp
 | err _ _ _=> simp
 | @tok u v l e o h hv he hr ih=>
  have hp:=tokL_pos v he
  have h1:=skip_len _ u (Nat.le_refl _)
  rw [h]at h1
  rw [List.length_drop]at ih
  simp;omega
end Go.Proofs.YtnbmpfdffoidaaaGreatDoor.X
namespace Go.Proofs.YtnbmpfdffoidaaaGreatDoor.Y
open Go.RowKit O V S X
def TkS (t:Tok)(vs:List Value):Prop:= ∃p q r:Int,vs=[nv t.1,sv t.2.1,nv t.2.2.k,nv t.2.2.n,sv t.2.2.s,nv p,nv q,nv r]
theorem TkS.size: ∀(t:Tok) (vs:List Value),TkS t vs→vs.length=8:=by rintro t vs ⟨p,q,r,rfl⟩;rfl
theorem tks_core: ∀{l:List Tk} {xs:List Value},Reps TkD l xs→Reps TkS (l.map core) xs
 | [],_,h=> h
 | t::l,_,⟨vs,ys,e,⟨p,q,r,h⟩,k⟩=> ⟨vs,ys,e,⟨p,q,r,h⟩,tks_core k⟩
structure TR (w:World)(B:Nat)(A:Option Addr)(n c:Nat)(l:List Tok):Prop where
 ex: ∃xs,Rd w B 8 A n xs∧Reps TkS l xs
 cap:n≤c∧c≤9223372036854775807
theorem TR.len {w:World}{B:Nat}{A:Option Addr}{n c:Nat}{l:List Tok}(h:TR w B A n c l):l.length=n:=by
 obtain ⟨xs,h1,h2⟩:=h.ex
 exact h1.len_of TkS.size h2 (by omega)
theorem TR.keep {w w':World}{B:Nat}{A:Option Addr}{n c:Nat}{l:List Tok}(h:TR w B A n c l)(hk: ∀b,b < B→w'.heap[b]? =w.heap[b]?):TR w' B A n c l:=by
 obtain ⟨xs,h1,h2⟩:=h.ex
 exact ⟨⟨xs,h1.keep fun p hp=> World.cell?_of_block (hk _ hp),h2⟩,h.cap⟩
theorem TR.head {w:World}{B:Nat}{A:Option Addr}{n c:Nat}{t:Tok}{l:List Tok}(h:TR w B A n c (t::l)):
  ∃b off,∃p q r:Int,A=some ⟨b,off,none⟩∧b < B∧((w.cell? ⟨b,off,none⟩=some (nv t.1)∧w.cell? ⟨b,off+1,none⟩=some (sv t.2.1))∧w.cell? ⟨b,off+2,none⟩=some (nv t.2.2.k)∧w.cell? ⟨b,off+3,none⟩=some (nv t.2.2.n)∧w.cell? ⟨b,off+4,none⟩=some (sv t.2.2.s))∧
   (w.cell? ⟨b,off+5,none⟩=some (nv p)∧w.cell? ⟨b,off+6,none⟩=some (nv q))∧w.cell? ⟨b,off+7,none⟩=some (nv r):=by
 obtain ⟨xs,h1,h2⟩:=h.ex
 obtain ⟨b,off,vs,e,hb,⟨p,q,r,rfl⟩,hc⟩:=h1.elem TkS.size h2 (i:=0) (by simp) (by omega)
 simp only [Nat.zero_mul,Nat.add_zero]at hc
 exact ⟨b,off,p,q,r,e,hb,⟨⟨hc 0 (by omega),hc 1 (by omega)⟩,hc 2 (by omega),hc 3 (by omega),hc 4 (by omega)⟩,⟨hc 5 (by omega),hc 6 (by omega)⟩,hc 7 (by omega)⟩
theorem TR.tail {w:World}{B n c b off:Nat}{t:Tok}{l:List Tok}(h:TR w B (some ⟨b,off,none⟩) n c (t::l)){A':Option Addr}(hA:c≠1→A'=some ⟨b,off+8,none⟩):TR w B A' (n - 1) (c - 1) l:=by
 have hl:=h.len
 have hcap:=h.cap
 simp at hl
 obtain ⟨xs,h1,h2⟩:=h.ex
 obtain ⟨vs,ys,rfl,⟨p,q,r,rfl⟩,h4⟩:=h2
 have h5:=h4.length TkS.size
 refine ⟨⟨ys,⟨by omega,fun hp=> ?_⟩,h4⟩,by omega⟩
 obtain ⟨b',off',e,hb,hc⟩:=h1.2 (by simp)
 injection e with e
 injection e with e1 e2
 subst e1 e2
 refine ⟨b,off+8,hA (by omega),hb,fun j hj=> ?_⟩
 have:=hc (8+j) (by simp;omega)
 rw [Nat.add_assoc,this,List.getElem?_append_right (by simp)]
 simp
theorem heap_set {w:World}{b i:Nat}{cs:Array Value}{T:TypeId}(hb:w.heap[b]? =some (.cells cs T (0,0)))(v:Value):(w.setCell ⟨b,i,none⟩ v).heap[b]? =some (.cells (cs.setIfInBounds i v) T (0,0)):=by
 simp [World.setCell,Array.getElem?_modify,hb]
end Go.Proofs.YtnbmpfdffoidaaaGreatDoor.Y
namespace Go.Proofs.YtnbmpfdffoidaaaGreatDoor
open Go.RowKit
inductive Plan where
 | done
 | read (i:Nat) (rest:Plan)
 | call (i:Nat) (rest:Plan)
 | two (i j:Nat) (l r:Plan)
 | three (i j k:Nat) (l r s:Plan)
def Plan.len:Plan→Nat
 | .done=> 0
 | .read _ rest=> rest.len+1
 | .call _ rest=> rest.len+1
 | .two _ _ l _=> l.len+1
 | .three _ _ _ l _ _=> l.len+1
section
variable {P:Program} {ops:Array Oper} {Q:Exit→Act→World→Prop} {md:Region.Mode} {bs:List Nat}
def wpPlan (bs:List Nat)(P:Program)(ops:Array Oper)(Q:Exit→Act→World→Prop):Plan→Act→World→Prop
  | .done,a,w=> Q .normal a w
  | .read i rest,a,w=> ∃o,ops[i]? =some o∧
      ((Region.wanted o (yielded ops a.tmps)=true∧∃v,(∀W,KB bs w W→(execOp a.eval o).run P W= .ok (.value v) W)∧wpPlan bs P ops Q rest (a.put o.dst v) w)∨
       (Region.wanted o (yielded ops a.tmps)=false∧wpPlan bs P ops Q rest (a.put o.dst undef) w))
  | .call i rest,a,w=> ∃o,ops[i]? =some o∧
      ((Region.wanted o (yielded ops a.tmps)=true∧o.wp P a w (fun a' w'=> KB bs w w'∧wpPlan bs P ops Q rest a' w') Q)∨
       (Region.wanted o (yielded ops a.tmps)=false∧wpPlan bs P ops Q rest (a.put o.dst undef) w))
  | .two i j l r,a,w=> (∃o,ops[i]? =some o∧Region.wanted o (yielded ops a.tmps)=true∧o.wp P a w (fun a' w'=> KB bs w w'∧wpPlan bs P ops Q l a' w') Q)∧
      (∃o,ops[j]? =some o∧Region.wanted o (yielded ops a.tmps)=true∧o.wp P a w (fun a' w'=> KB bs w w'∧wpPlan bs P ops Q r a' w') Q)
  | .three i j k l r s,a,w=> (∃o,ops[i]? =some o∧Region.wanted o (yielded ops a.tmps)=true∧o.wp P a w (fun a' w'=> KB bs w w'∧wpPlan bs P ops Q l a' w') Q)∧
      (∃o,ops[j]? =some o∧Region.wanted o (yielded ops a.tmps)=true∧o.wp P a w (fun a' w'=> KB bs w w'∧wpPlan bs P ops Q r a' w') Q)∧
      (∃o,ops[k]? =some o∧Region.wanted o (yielded ops a.tmps)=true∧o.wp P a w (fun a' w'=> KB bs w w'∧wpPlan bs P ops Q s a' w') Q)
def planOk (md:Region.Mode)(ops:Array Oper):Array Bool→Plan→Bool
 | listed,.done=> (Region.ready md ops listed).isEmpty
 | listed,.read i rest=> Region.free md ops listed i && (Region.ready md ops listed).contains i && planOk md ops (listed.setIfInBounds i true) rest
 | listed,.call i rest=> (Region.ready md ops listed==[i]) && planOk md ops (listed.setIfInBounds i true) rest
 | listed,.two i j l r=> (Region.ready md ops listed==[i,j]) && (l.len==r.len && (planOk md ops (listed.setIfInBounds i true) l && planOk md ops (listed.setIfInBounds j true) r))
 | listed,.three i j k l r s=> (Region.ready md ops listed==[i,j,k]) && ((l.len==r.len && l.len==s.len) && (planOk md ops (listed.setIfInBounds i true) l && (planOk md ops (listed.setIfInBounds j true) r && planOk md ops (listed.setIfInBounds k true) s)))
theorem wpAnyH_plan (hs:Region.noSelect ops=true)(hQ: ∀c a d v w,Q (.panic c) (a.put d v) w→Q (.panic c) a w):
  ∀(steps:Plan) (listed:Array Bool) (a:Act) (w:World),planOk md ops listed steps=true→wpPlan bs P ops Q steps a w→wpAnyH P md ops Q (KB bs w) steps.len listed a w
 | .done,listed,a,w,hok,h=> ⟨by simpa [planOk]using hok,h⟩
 | .read i rest,listed,a,w,hok,h=> by
  simp only [planOk,Bool.and_eq_true]at hok
  obtain ⟨⟨hf,hr⟩,hok⟩:=hok
  obtain ⟨o,hi,h⟩:=h
  rcases h with ⟨hw,v,hv,h⟩ | ⟨hw,h⟩
  ·exact wpAnyH_take (v:=v) hi hs hf hr (fun c a w=> hQ c a o.dst v w) (.inl ⟨hw,hv⟩) (KB.refl bs w) (wpAnyH_plan hs hQ rest _ _ w hok h)
  ·exact wpAnyH_take (v:=undef) hi hs hf hr (fun c a w=> hQ c a o.dst undef w) (.inr ⟨hw,rfl⟩) (KB.refl bs w) (wpAnyH_plan hs hQ rest _ _ w hok h)
 | .call i rest,listed,a,w,hok,h=> by
  simp only [planOk,Bool.and_eq_true,beq_iff_eq]at hok
  obtain ⟨hr,hok⟩:=hok
  obtain ⟨o,hi,h⟩:=h
  refine wpAnyH_all hr (by simp) fun j hj=> ?_
  obtain rfl:j=i:=by simpa using hj
  unfold wpOp
  simp only [hi]
  rcases h with ⟨hw,h⟩ | ⟨hw,h⟩
  ·simp only [hw,if_true]
   refine .inl (Oper.wp_mono (fun a' w' h'=> ⟨h'.1,?_⟩) h)
   exact wpAnyH_impB (fun W hW=> KB.trans h'.1 hW) _ _ _ _ (wpAnyH_plan hs hQ rest _ a' w' hok h'.2)
  ·simp only [hw,Bool.false_eq_true,if_false]
   exact ⟨KB.refl bs w,wpAnyH_plan hs hQ rest _ _ w hok h⟩
 | .two i j l r,listed,a,w,hok,h=> by
  simp only [planOk,Bool.and_eq_true,beq_iff_eq]at hok
  obtain ⟨hr,hlen,hl,hrr⟩:=hok
  obtain ⟨⟨o,hi,hw,h⟩,⟨o',hj,hw',h'⟩⟩:=h
  refine wpAnyH_all hr (by simp) fun k hk=> ?_
  have hk2:k=i∨k=j:=by simpa using hk
  rcases hk2 with rfl | rfl
  ·unfold wpOp
   simp only [hi,hw,if_true]
   refine .inl (Oper.wp_mono (fun a' w' h'=> ⟨h'.1,?_⟩) h)
   exact wpAnyH_impB (fun W hW=> KB.trans h'.1 hW) _ _ _ _ (wpAnyH_plan hs hQ l _ a' w' hl h'.2)
  ·unfold wpOp
   simp only [hj,hw',if_true]
   refine .inl (Oper.wp_mono (fun a' w' h'=> ⟨h'.1,?_⟩) h')
   have:=wpAnyH_impB (fun W hW=> KB.trans h'.1 hW) _ _ _ _ (wpAnyH_plan hs hQ r _ a' w' hrr h'.2)
   rwa [← hlen]at this
 | .three i j m l r s,listed,a,w,hok,h=> by
  simp only [planOk,Bool.and_eq_true,beq_iff_eq]at hok
  obtain ⟨hr,⟨hlen,hlen2⟩,hl,hrr,hss⟩:=hok
  obtain ⟨⟨o,hi,hw,h⟩,⟨o',hj,hw',h'⟩,⟨o2,hm,hw2,h2⟩⟩:=h
  refine wpAnyH_all hr (by simp) fun k hk=> ?_
  have hk2:k=i∨k=j∨k=m:=by simpa using hk
  rcases hk2 with rfl | rfl | rfl
  ·unfold wpOp
   simp only [hi,hw,if_true]
   refine .inl (Oper.wp_mono (fun a' w' h'=> ⟨h'.1,?_⟩) h)
   exact wpAnyH_impB (fun W hW=> KB.trans h'.1 hW) _ _ _ _ (wpAnyH_plan hs hQ l _ a' w' hl h'.2)
  ·unfold wpOp
   simp only [hj,hw',if_true]
   refine .inl (Oper.wp_mono (fun a' w' h'=> ⟨h'.1,?_⟩) h')
   have:=wpAnyH_impB (fun W hW=> KB.trans h'.1 hW) _ _ _ _ (wpAnyH_plan hs hQ r _ a' w' hrr h'.2)
   rwa [← hlen]at this
  ·unfold wpOp
   simp only [hm,hw2,if_true]
   refine .inl (Oper.wp_mono (fun a' w' h'=> ⟨h'.1,?_⟩) h2)
   have:=wpAnyH_impB (fun W hW=> KB.trans h'.1 hW) _ _ _ _ (wpAnyH_plan hs hQ s _ a' w' hss h'.2)
   rwa [← hlen2]at this
theorem pdone {a:Act}{w:World}(h:Q .normal a w):wpPlan bs P ops Q .done a w:=h
theorem pcall {l:List Oper}{i:Nat}{rest:Plan}{a:Act}{w:World}{o:Oper}(hi:l[i]? =some o)(hw:Region.wanted o (yielded l.toArray a.tmps)=true)
  (h: ∀K:Act→World→Prop,Shut (∀a' w',KB bs w w'→wpPlan bs P l.toArray Q rest a' w'→K a' w')→o.wp P a w K Q):wpPlan bs P l.toArray Q (.call i rest) a w:=
 ⟨o,by simpa using hi,.inl ⟨hw,h _ (fun _ _ hg hk=> ⟨hg,hk⟩)⟩⟩
theorem sreadxP {l:List Oper}{i:Nat}{rest:Plan}{a:Act}{w:World}{o:Oper}(hi:l[i]? =some o)(hw:Region.wanted o (yielded l.toArray a.tmps)=true)
  (h: ∃v,(∀W,KB bs w W→(execOp a.eval o).run P W= .ok (.value v) W)∧wpPlan bs P l.toArray Q rest (a.put o.dst v) w):wpPlan bs P l.toArray Q (.read i rest) a w:=⟨o,by simpa using hi,.inl ⟨hw,h⟩⟩
theorem pwith {steps:Plan}{a:Act}{w:World}{p:World→Prop}(h1: ∀W,KB bs w W→p W)(h2:(∀W,KB bs w W→p W)→wpPlan bs P ops Q steps a w):wpPlan bs P ops Q steps a w:=h2 h1
theorem prE {l:List Oper}{i:Nat}{rest:Plan}{a:Act}{w:World}{o:Oper}{v:Value}(h:wpPlan bs P l.toArray Q rest (a.put o.dst v) w)(hi:l[i]? =some o:=by rfl)(hw:Region.wanted o (yielded l.toArray a.tmps)=true:=by rfl)
  (h1: ∀W,KB bs w W→(execOp a.eval o).run P W= .ok (.value v) W:=by intro W hW;go_simp;try (first | with_reducible rfl | (rw [if_neg (by omega)];try with_reducible rfl))):wpPlan bs P l.toArray Q (.read i rest) a w:=sreadxP hi hw ⟨v,h1,h⟩
end
end Go.Proofs.YtnbmpfdffoidaaaGreatDoor
