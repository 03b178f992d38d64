/- Texts of the proof, joined: SynRt, SynRw, PrtL, LvRun. -/
import Derived.Test.YtnbmpfdffoidaaaGreatDoorPr02
import Derived.Test.YtnbmpfdffoidaaaGreatDoorPr03
import Derived.Test.YtnbmpfdffoidaaaGreatDoorPr21
import Derived.Test.YtnbmpfdffoidaaaGreatDoorPr22
import Derived.Test.YtnbmpfdffoidaaaGreatDoorPr24
import Derived.Test.YtnbmpfdffoidaaaGreatDoorPr25
set_option linter.unusedVariables false
set_option linter.unusedSimpArgs false
set_option maxHeartbeats 8000000
set_option maxRecDepth 100000
namespace Go.Proofs.YtnbmpfdffoidaaaGreatDoor.Y
open Go.RowKit O V S X
def tyTx (k m:Int):List UInt8:=if k=1 then w_int else if k=2 then w_bool else w_text ++32::decL m
theorem sp_T (k m:Int):sp (toksT k m)=tyTx k m ++ [32]:=by
 unfold toksT tyTx
 split
 ·simp [sp_cons,sp_nil,tw]
 ·split <;> simp [sp_cons,sp_nil,tw,tn]
abbrev TyOk (k m:Int):Prop:=(k=1∧m=0)∨(k=2∧m=0)∨(k=3∧1≤m∧m≤32)
theorem dec_len32 {m:Int}(h:1≤m∧m≤32):(decL m).length≤21:=by
 unfold decL
 have:=digN_len20 m.natAbs (by omega)
 rw [if_neg (by omega)]
 omega
theorem tyTx_len {k m:Int}(h:TyOk k m):(tyTx k m).length≤26:=by
 unfold tyTx
 rcases h with ⟨rfl,rfl⟩ | ⟨rfl,rfl⟩ | ⟨rfl,h⟩
 ·decide
 ·decide
 ·have:=dec_len32 h
  rw [if_neg (by omega),if_neg (by omega)]
  simp [w_text];omega
theorem right_any (k m:Int)(h:TyOk k m)(w:World):Calls Tryz.prog 72 #[.agg #[nv k,nv m]] w fun e w'=> e= .returned (.bool true)∧Below w.heap.size w w':=by
 rcases h with ⟨rfl,rfl⟩ | ⟨rfl,rfl⟩ | ⟨rfl,h1,h2⟩
 ·go_enter Tryz.func72,Tryz.ntmps72
  go_wp2_with fail
  go_ret
  refine ⟨rfl,?_⟩
  repeat (first | (with_reducible exact Below.refl _ _) | (with_reducible assumption) | refine Below.setCell ?_ (by simp <;> omega) _ | refine Below.alloc ?_ (by simp <;> omega) _ | refine Below.drew ?_)
 ·go_enter Tryz.func72,Tryz.ntmps72
  go_wp2_with fail
  go_ret
  refine ⟨rfl,?_⟩
  repeat (first | (with_reducible exact Below.refl _ _) | (with_reducible assumption) | refine Below.setCell ?_ (by simp <;> omega) _ | refine Below.alloc ?_ (by simp <;> omega) _ | refine Below.drew ?_)
 ·have d1:(0:Int) < m:=by omega
  have d2:m < 33:=by omega
  go_enter Tryz.func72,Tryz.ntmps72
  go_wp2_with fail
  go_ret
  refine ⟨rfl,?_⟩
  repeat (first | (with_reducible exact Below.refl _ _) | (with_reducible assumption) | refine Below.setCell ?_ (by simp <;> omega) _ | refine Below.alloc ?_ (by simp <;> omega) _ | refine Below.drew ?_)
theorem rtype_any (k m:Int)(h:TyOk k m)(w:World):Calls Tryz.prog 35 #[.agg #[nv k,nv m]] w fun e w'=> e= .returned (sv (tyTx k m))∧Below w.heap.size w w':=by
 have hR:=fun w=> right_any k m h w
 have HR:=Lib.hid hR
 clear hR
 rcases h with ⟨rfl,rfl⟩ | ⟨rfl,rfl⟩ | ⟨rfl,h⟩
 ·go_enter Tryz.func35,Tryz.ntmps35
  go_wp2_with fail
  refine (HR.out _).mono ?_;rintro e w2 ⟨rfl,b2⟩
  have x0:=(b2.cell (p:=⟨w.heap.size,0,none⟩) (by simp)).trans (by rw [Lib.cell_of_heap (alloc_at rfl)];rfl:_=some (nv 1))
  go_wp2_with fail
  go_ret
  exact ⟨rfl,bthen ((Below.refl _ _).alloc (Nat.le_refl _) _) b2⟩
 ·go_enter Tryz.func35,Tryz.ntmps35
  go_wp2_with fail
  refine (HR.out _).mono ?_;rintro e w2 ⟨rfl,b2⟩
  have x0:=(b2.cell (p:=⟨w.heap.size,0,none⟩) (by simp)).trans (by rw [Lib.cell_of_heap (alloc_at rfl)];rfl:_=some (nv 2))
  go_wp2_with fail
  go_ret
  exact ⟨rfl,bthen ((Below.refl _ _).alloc (Nat.le_refl _) _) b2⟩
 ·have hd:=dec_len32 h
  go_enter Tryz.func35,Tryz.ntmps35
  go_wp2_with fail
  refine (HR.out _).mono ?_;rintro e w2 ⟨rfl,b2⟩
  have x0:=(b2.cell (p:=⟨w.heap.size,0,none⟩) (by simp)).trans (by rw [Lib.cell_of_heap (alloc_at rfl)];rfl:_=some (nv 3))
  have x1:=(b2.cell (p:=⟨w.heap.size,1,none⟩) (by simp)).trans (by rw [Lib.cell_of_heap (alloc_at rfl)];rfl:_=some (nv m))
  go_wp2_with fail
  refine (rdec_any m _ (by omega) (by omega)).mono ?_;rintro e w3 ⟨rfl,b3⟩
  go_wp2_with (refine wpList_cat rfl rfl rfl rfl (by simp;omega) ?_)
  go_ret
  refine ⟨?_,bthen (bthen ((Below.refl _ _).alloc (Nat.le_refl _) _) b2) b3⟩
  unfold tyTx
  rw [if_neg (by omega),if_neg (by omega)]
  rfl
def colsT (l:List Cl):List Tok:=l.flatMap fun c=> toksC c ++ [tg [59]]
def colTx (c:Cl):List UInt8:=c.name ++ [32] ++tyTx c.k c.m
theorem sp_C (c:Cl):sp (toksC c)=colTx c ++ [32]:=by
 unfold toksC colTx
 rw [sp_cons,sp_T];simp [tw]
theorem sp_col (c:Cl):sp (toksC c ++ [tg [59]])=colTx c ++ [32,59,32]:=by
 rw [sp_app,sp_C,sp_cons,sp_nil];simp [tg]
theorem cols_step {l:List Cl}{k:Nat}(h:k < l.length):sp (colsT (l.take (k+1)))=sp (colsT (l.take k)) ++(colTx l[k] ++ [32,59,32]):=by
 unfold colsT
 rw [List.take_succ_eq_append_getElem h,List.flatMap_append,sp_app,List.flatMap_cons,List.flatMap_nil,List.append_nil,sp_col]
theorem cols_len (l:List Cl)(k:Nat):(sp (colsT (l.take k))).length≤(sp (colsT l)).length:=by
 conv=> rhs;rw [← List.take_append_drop k l]
 unfold colsT
 rw [List.flatMap_append,sp_app,List.length_append]
 omega
def tbHead (t:Tb):List UInt8:=w_table ++ [32] ++t.name ++([32] ++w_rows ++ [32]) ++(decL t.rows ++ [32]) ++ [123,32]
theorem sp_tb (t:Tb):sp (toksTb t)=tbHead t ++sp (colsT t.cols) ++ [125,32]:=by
 unfold toksTb tbHead colsT
 simp [sp_cons,sp_app,sp_nil,tw,tg,tn]
def tbsT (l:List Tb):List Tok:=l.flatMap toksTb
theorem tbs_step {l:List Tb}{k:Nat}(h:k < l.length):sp (tbsT (l.take (k+1)))=sp (tbsT (l.take k)) ++(tbHead l[k] ++sp (colsT l[k].cols) ++ [125,32]):=by
 unfold tbsT
 rw [List.take_succ_eq_append_getElem h,List.flatMap_append,sp_app,List.flatMap_cons,List.flatMap_nil,List.append_nil,sp_tb]
theorem tbs_len (l:List Tb)(k:Nat):(sp (tbsT (l.take k))).length≤(sp (tbsT l)).length:=by
 conv=> rhs;rw [← List.take_append_drop k l]
 unfold tbsT
 rw [List.flatMap_append,sp_app,List.length_append]
 omega
theorem ps_take (l:List Cl)(k:Nat): ∃t,toksPs l=toksPs (l.take k) ++t:=by
 cases l with
 | nil=> exact ⟨[],by simp [toksPs]⟩
 | cons c r=>
  cases k with
  | zero=> exact ⟨toksPs (c::r),by rw [List.take_zero];rfl⟩
  | succ j=>
   refine ⟨(r.drop j).flatMap fun x=> tg [44]::toksC x,?_⟩
   rw [List.take_succ_cons]
   show toksC c ++(r.flatMap fun x=> tg [44]::toksC x)=(toksC c ++((r.take j).flatMap fun x=> tg [44]::toksC x)) ++_
   rw [List.append_assoc,← List.flatMap_append,List.take_append_drop]
theorem ps_len (l:List Cl)(k:Nat):(sp (toksPs (l.take k))).length≤(sp (toksPs l)).length:=by
 obtain ⟨t,e⟩:=ps_take l k
 rw [e,sp_app,List.length_append]
 omega
theorem ps_first {l:List Cl}(h:0 < l.length):sp (toksPs (l.take (0+1)))=colTx l[0] ++ [32]:=by
 cases l with
 | nil=> simp at h
 | cons c r=>
  rw [List.take_succ_cons,List.take_zero]
  show sp (toksC c ++ [])=_
  rw [List.append_nil,sp_C];rfl
theorem ps_next {l:List Cl}{k:Nat}(h:k < l.length)(hk:0 < k):sp (toksPs (l.take (k+1)))=sp (toksPs (l.take k)) ++([44,32] ++(colTx l[k] ++ [32])):=by
 cases l with
 | nil=> simp at h
 | cons c r=>
  cases k with
  | zero=> simp at hk
  | succ j=>
   have hj:j < r.length:=by simpa using h
   rw [List.take_succ_cons,List.take_succ_cons]
   show sp (toksC c ++((r.take (j+1)).flatMap fun x=> tg [44]::toksC x))=sp (toksC c ++((r.take j).flatMap fun x=> tg [44]::toksC x)) ++_
   rw [List.take_succ_eq_append_getElem hj,List.flatMap_append,← List.append_assoc,sp_app,List.flatMap_cons,List.flatMap_nil,List.append_nil,sp_cons,sp_C,List.getElem_cons_succ]
   rfl
def pcHead (p:Pc):List UInt8:=w_proc ++ [32] ++p.name ++ [32,40,32]
theorem sp_pc (p:Pc):sp (toksP p)=pcHead p ++sp (toksPs p.params) ++([41,32] ++blk p.body):=by
 unfold toksP pcHead blk
 simp [sp_cons,sp_app,sp_nil,tw,tg]
def pcsT (l:List Pc):List Tok:=l.flatMap toksP
theorem pcs_step {l:List Pc}{k:Nat}(h:k < l.length):sp (pcsT (l.take (k+1)))=sp (pcsT (l.take k)) ++(pcHead l[k] ++sp (toksPs l[k].params) ++([41,32] ++blk l[k].body)):=by
 unfold pcsT
 rw [List.take_succ_eq_append_getElem h,List.flatMap_append,sp_app,List.flatMap_cons,List.flatMap_nil,List.append_nil,sp_pc]
theorem pcs_len (l:List Pc)(k:Nat):(sp (pcsT (l.take k))).length≤(sp (pcsT l)).length:=by
 conv=> rhs;rw [← List.take_append_drop k l]
 unfold pcsT
 rw [List.flatMap_append,sp_app,List.length_append]
 omega
theorem sp_textOf: ∀{l:List Tok},l≠[]→sp l=textOf l ++ [32]
 | [],h=> absurd rfl h
 | [t],_=> by rw [sp_cons,sp_nil];rfl
 | t::y::r,_=> by
  rw [sp_cons,sp_textOf (l:=y::r) (by simp)]
  show t.2.1 ++32::(joinB (txts (y::r)) ++ [32])=(t.2.1 ++32::joinB (txts (y::r))) ++ [32]
  simp
end Go.Proofs.YtnbmpfdffoidaaaGreatDoor.Y
namespace Go.Proofs.YtnbmpfdffoidaaaGreatDoor.Y
open Go.RowKit O V S X
theorem svc {l m:List UInt8}(h:l=m):sv l=sv m:=by rw [h]
theorem okC_ty {c:Cl}(h:okC c):TyOk c.k c.m:=h.t
theorem tbHead_eq (n:List UInt8)(r:Int)(l:List Cl):tbHead ⟨n,r,l⟩=[116,97,98,108,101,32] ++n ++ [32,114,111,119,115,32] ++(decL r ++ [32]) ++ [123,32]:=by
 simp [tbHead,w_table,w_rows]
theorem pcHead_eq (n:List UInt8)(l:List Cl)(b:Sts):pcHead ⟨n,l,b⟩=[112,114,111,99,32] ++n ++ [32,40,32]:=by
 simp [pcHead,w_proc]
theorem rprintW_any (k:Wk)(hk:okWw k)(hlen:(sp (toksW k)).length≤99999000)(v:Value)(S:Nat→Prop)(w:World)(h:WkR w S k v)(hS: ∀b,S b→b < w.heap.size):
  Calls Tryz.prog 12 #[v] w fun e w'=> e= .returned (sv (textOf (toksW k)))∧Below w.heap.size w w':=by
 obtain ⟨A,c,es,B,d,fs,rfl,ha,hb,hc⟩:=h
 have hT1:RT w S A c k.tables:=⟨_,ha⟩
 have hP1:RP w S B d k.procs:=⟨_,hb,hc⟩
 have k1:=hT1.cap
 have k3:=hP1.cap
 have T1:=Lib.hid hT1
 have P1:=Lib.hid hP1
 have HS:=Lib.hid hS
 have HK:=Lib.hid hk
 have HL:Hid ((sp (tbsT k.tables)).length+(sp (pcsT k.procs)).length≤99999000):=Lib.hid (by
  have:toksW k=tbsT k.tables ++pcsT k.procs:=rfl
  rw [this,sp_app,List.length_append]at hlen;exact hlen)
 obtain ⟨R,hR⟩: ∃R,textOf (toksW k)=R:=⟨_,rfl⟩
 have HR:=Lib.hid hR
 rw [hR]
 obtain ⟨n,hn⟩: ∃n,k.tables.length=n:=⟨_,rfl⟩
 obtain ⟨m,hm⟩: ∃m,k.procs.length=m:=⟨_,rfl⟩
 have HN:=Lib.hid hn
 have HM:=Lib.hid hm
 rw [hn]at k1⊢
 rw [hm]at k3⊢
 clear ha hb hc hT1 hP1 hS hk hlen hn hm hR
 go_enter Tryz.func12,Tryz.ntmps12
 go_upto_region 2 with fail
 have D0:Below w.heap.size w (w.alloc (.cells #[.slice A n c,.slice B m d] 25)):=(Below.refl _ _).alloc (Nat.le_refl _) _
 obtain ⟨w2,hw2⟩: ∃W,w.alloc (.cells #[.slice A n c,.slice B m d] 25)=W:=⟨_,rfl⟩
 have X1:Hid (w2.heap[w.heap.size]? =some (.cells #[.slice A n c,.slice B m d] 25 (0,0))):=Lib.hid (by rw [← hw2];exact alloc_at rfl)
 rw [hw2]at D0⊢
 clear hw2
 obtain ⟨u0,u1⟩:=box2 X1.out
 have hz0:=D0.size
 go_wp2_with fail
 clear u0 u1
 go_loopw [3,15] (fun s i wr=> ∃j:Nat,j≤n∧i= .int .i64 j∧s=sv (sp (tbsT (k.tables.take j)))∧Hid (Below w2.heap.size w2 wr)) (fun _ i _=> n - (intOf i).toNat)
 case atStart=> exact ⟨0,by omega,rfl,rfl,Lib.hid (Below.refl _ _)⟩
 case round=>
  obtain ⟨j,hj,rfl,rfl,hb⟩:=hrel
  have hzr:=hb.out.size
  have DR:=Lib.hid (D0.trans (hb.out.mono hz0))
  by_cases hlt:j < n
  ·have hlt':j < k.tables.length:=by rw [HN.out];exact hlt
   have hji:(j:Int) < (n:Int):=by omega
   obtain ⟨b1,off1,A1,c1,⟨rfl,hb1⟩,rc1,hc1⟩:=T1.out.at_ HS.out hlt'
   have hsn:=tbs_step hlt'
   have hle:=Nat.le_trans (Nat.add_le_add_right (tbs_len k.tables (j+1)) _) HL.out
   rw [hsn,List.length_append]at hle
   have HSN:=Lib.hid hsn
   have HOT:=Lib.hid (HK.out.t.2 _ (List.getElem_mem hlt'))
   have RC1:=Lib.hid rc1
   have HC1:=Lib.hid hc1
   clear rc1 hc1 hsn
   generalize k.tables[j]=t at *
   obtain ⟨tn,tr,tc⟩:=t
   obtain ⟨F,hF⟩: ∃F,sp (tbsT (k.tables.take j))=F:=⟨_,rfl⟩
   rw [hF]at hle HSN⊢
   clear hF
   rw [tbHead_eq]at hle HSN
   simp only [List.length_append,List.length_cons,List.length_nil]at hle
   try dsimp only at hle
   try dsimp only at HSN
   try dsimp only at HC1
   try dsimp only at RC1
   have HOK:=Lib.hid (HOT.out.c.2)
   have HR:=HOT.out.r
   try dsimp only at HOK
   try dsimp only at HR
   have hnb:-9223372036854775808≤tr∧tr≤9223372036854775807:=by unfold okNum at HR;omega
   have RN:Hid (∀w:World,Calls Tryz.prog 34 #[nv tr] w fun e w'=> e= .returned (sv (decL tr ++ [32]))∧Below w.heap.size w w'):=Lib.hid fun w=> rnum_any tr w hnb.1 hnb.2
   have hdl:(decL tr ++ [32]).length≤100000000:=by simp only [List.length_append,List.length_cons,List.length_nil];omega
   have htn:tn.length≤100000000:=by omega
   have hFl:F.length≤100000000:=by omega
   have hcl:=cols_len tc
   have kc:=RC1.out.cap
   obtain ⟨nc,hnc⟩: ∃z,tc.length=z:=⟨_,rfl⟩
   have HNC:=Lib.hid hnc
   obtain ⟨⟨x0,x1⟩,x2⟩:=HC1.out wr (fun b hB=> DR.out.block b (HS.out b hB))
   try dsimp only at x2
   rw [hnc]at x2 kc
   obtain ⟨u0,u1⟩:=box2 (box_next X1.out hb.out)
   have hwz0:w.heap.size < wr.heap.size:=(Array.getElem?_eq_some_iff.1 (box_next X1.out hb.out)).1
   have hbw:b1 < wr.heap.size:=by omega
   clear HR hnb HOT hnc
   go_upto_region 5 with fail
   have D4:Below wr.heap.size wr (wr.alloc (.cells #[sv tn,nv tr,.slice A1 nc c1] 66)):=(Below.refl _ _).alloc (Nat.le_refl _) _
   obtain ⟨w4,hw4⟩: ∃W,wr.alloc (.cells #[sv tn,nv tr,.slice A1 nc c1] 66)=W:=⟨_,rfl⟩
   have Y1:Hid (w4.heap[wr.heap.size]? =some (.cells #[sv tn,nv tr,.slice A1 nc c1] 66 (0,0))):=Lib.hid (by rw [← hw4];exact alloc_at rfl)
   rw [hw4]at D4⊢
   clear hw4 x0 x1 x2 u0 u1
   obtain ⟨D,hD⟩: ∃D,decL tr ++ [32]=D:=⟨_,rfl⟩
   rw [hD]at RN hdl HSN
   have hDl:10+tn.length+D.length≤99999000:=by rw [← hD];simp only [List.length_append,List.length_cons,List.length_nil];omega
   have hle2:F.length+(tn.length+D.length+14)+(sp (colsT tc)).length+2≤99999000:=by rw [← hD];simp only [List.length_append,List.length_cons,List.length_nil];omega
   clear hD hle
   have BD:Below w4.heap.size w4 w4.drew:=(Below.refl _ _).drew
   go_wp2_with fail
   refine wp_region_sched [(0,true),(1,true),(2,true),(3,true),(4,true),(5,true),(6,true),(7,false),(8,true),(9,true),(10,true),(11,true)] (by kernel_rfl) (by kernel_rfl) (fun _ _ d _ _ h=> by cases d <;> exact h) ?_
   refine swith (fun W hW=> (cells3 (box_next Y1.out ((Below.refl _ _).drew.trans hW.out)))) (fun qx=> ?_)
   repeat (first | (refine srE ?_;simp only [Act.put,sA,sB,sC]) | (refine skE ?_;simp only [Act.put,sA,sB,sC]))
   refine scall rfl rfl (fun K hK=> ?_)
   go_simp
   refine (RN.out _).mono ?_;rintro e w5 ⟨rfl,b5⟩
   go_wp2_with fail
   refine hK.out _ _ (by exact b5) ?_
   clear hK K
   try simp only [Act.put,sA,sB,sC]
   replace qx:=fun (W:World) (hW:Grow w5 W)=> qx W (Grow.trans (b5) hW)
   repeat (first | (refine srE ?_;simp only [Act.put,sA,sB,sC]) | (refine skE ?_;simp only [Act.put,sA,sB,sC]))
   refine sdone ?_
   have D5:=Lib.hid (bthen BD b5)
   have Y5:=Lib.hid (box_next Y1.out D5.out)
   clear qx BD b5
   obtain ⟨x0,x1,x2⟩:=cells3 Y5.out
   go_wp2_with fail
   clear x0 x1 x2
   have D45:=Lib.hid (D4.trans (D5.out.mono D4.size))
   have RC5:Hid (RC w5 S A1 c1 tc):=Lib.hid (RC1.out.keep fun b hB=> (DR.out.trans (D45.out.mono DR.out.size)).block b (HS.out b hB))
   have hz5:w.heap.size≤w5.heap.size:=Nat.le_trans DR.out.size D45.out.size
   obtain ⟨F2,hF2⟩: ∃F2,F ++([116,97,98,108,101,32] ++tn ++ [32,114,111,119,115,32] ++D ++ [123,32])=F2:=⟨_,rfl⟩
   have HF2:=Lib.hid hF2
   have hF2l:F2.length+(sp (colsT tc)).length+2≤99999000:=by rw [← hF2];simp only [List.length_append,List.length_cons,List.length_nil];omega
   clear hF2 hle2
   go_loopw [3,33] (fun s i wr=> ∃z:Nat,z≤nc∧i= .int .i64 z∧s=sv (F2 ++sp (colsT (tc.take z)))∧Hid (Below w5.heap.size w5 wr)) (fun _ i _=> nc - (intOf i).toNat)
   case atStart=>
    refine ⟨0,by omega,rfl,?_,Lib.hid (Below.refl _ _)⟩
    rw [← HF2.out]
    refine Eq.trans (congrArg Value.string ?_) (svc (List.append_nil _).symm)
    simp only [ba_append]
   case round=>
    obtain ⟨z,hz,rfl,rfl,hbz⟩:=hrel
    have hzz:=hbz.out.size
    have hclz:=hcl z
    by_cases hzl:z < nc
    ·have hzl':z < tc.length:=by rw [HNC.out];exact hzl
     have hzi:(z:Int) < (nc:Int):=by omega
     obtain ⟨b3,off3,⟨rfl,hb3⟩,hc3⟩:=RC5.out.at_ HS.out hzl'
     have hst:=cols_step hzl'
     have hcl1:=hcl (z+1)
     rw [hst]at hcl1
     have HST:=Lib.hid hst
     have HOC:=Lib.hid (HOK.out _ (List.getElem_mem hzl'))
     generalize tc[z]=cl at *
     obtain ⟨cn,ck,cm⟩:=cl
     have HC3:=Lib.hid hc3
     clear hc3 hst
     dsimp only [colTx]at HST hcl1 HC3
     obtain ⟨G,hG⟩: ∃G,F2 ++sp (colsT (tc.take z))=G:=⟨_,rfl⟩
     have HG:=Lib.hid hG
     have RTy:Hid (∀w:World,Calls Tryz.prog 35 #[.agg #[nv ck,nv cm]] w fun e w'=> e= .returned (sv (tyTx ck cm))∧Below w.heap.size w w'):=Lib.hid fun w=> rtype_any ck cm (okC_ty HOC.out) w
     have hty:(tyTx ck cm).length≤26:=tyTx_len (okC_ty HOC.out)
     simp only [List.length_append,List.length_cons,List.length_nil]at hcl1
     have hGl:G.length+cn.length+50≤100000000:=by rw [← hG];simp only [List.length_append];omega
     rw [hG]
     clear hG HOC hcl1
     generalize tyTx ck cm=Y at *
     obtain ⟨⟨y0,y1⟩,y2⟩:=HC3.out wr (fun b hB=> hbz.out.block b (by have:=HS.out b hB;omega))
     try dsimp only at y0 y1 y2
     have hb3w:b3 < wr.heap.size:=by omega
     go_upto_region 9 with fail
     have D6:Below wr.heap.size wr (wr.alloc (.cells #[sv cn,nv ck,nv cm] 72)):=(Below.refl _ _).alloc (Nat.le_refl _) _
     obtain ⟨w6,hw6⟩: ∃W,wr.alloc (.cells #[sv cn,nv ck,nv cm] 72)=W:=⟨_,rfl⟩
     have Z1:Hid (w6.heap[wr.heap.size]? =some (.cells #[sv cn,nv ck,nv cm] 72 (0,0))):=Lib.hid (by rw [← hw6];exact alloc_at rfl)
     rw [hw6]at D6⊢
     clear hw6 y0 y1 y2
     have BD:Below w6.heap.size w6 w6.drew:=(Below.refl _ _).drew
     go_wp2_with fail
     refine wp_region_sched [(0,true),(1,true),(2,true),(3,true),(4,true),(5,true),(6,false),(7,true),(8,true),(9,true),(10,true)] (by kernel_rfl) (by kernel_rfl) (fun _ _ d _ _ h=> by cases d <;> exact h) ?_
     refine swith (fun W hW=> (cells3 (box_next Z1.out ((Below.refl _ _).drew.trans hW.out)))) (fun qx=> ?_)
     repeat (first | (refine srE ?_;simp only [Act.put,sA,sB,sC]) | (refine skE ?_;simp only [Act.put,sA,sB,sC]))
     refine scall rfl rfl (fun K hK=> ?_)
     go_simp
     refine (RTy.out _).mono ?_;rintro e w7 ⟨rfl,b7⟩
     go_wp2_with fail
     refine hK.out _ _ (by exact b7) ?_
     clear hK K
     try simp only [Act.put,sA,sB,sC]
     replace qx:=fun (W:World) (hW:Grow w7 W)=> qx W (Grow.trans (b7) hW)
     repeat (first | (refine srE ?_;simp only [Act.put,sA,sB,sC]) | (refine skE ?_;simp only [Act.put,sA,sB,sC]))
     refine sdone ?_
     have D7:=Lib.hid (bthen hbz.out (bthen D6 (bthen BD b7)))
     clear qx BD b7 D6
     go_wp2_with fail
     go_roundw
     case rel=>
      refine ⟨z+1,by omega,by go_num,?_,D7⟩
      rw [HST.out,← List.append_assoc,HG.out]
      refine congrArg Value.string ?_
      simp only [ba_append]
      first | done | simp
     case measure=> simp [intOf];omega
    ·obtain rfl:z=nc:=by omega
     rw [List.take_of_length_le (by rw [HNC.out];exact Nat.le_refl _)]
     obtain ⟨G,hG⟩: ∃G,F2 ++sp (colsT tc)=G:=⟨_,rfl⟩
     have HG:=Lib.hid hG
     have hGl:G.length+2≤99999000:=by rw [← hG];simp only [List.length_append];omega
     rw [hG]
     have D8:=Lib.hid (bthen hb.out (bthen D45.out hbz.out))
     clear hG
     go_wp2_with (refine wpList_cat rfl rfl rfl rfl (by simp;omega) ?_)
     go_roundw
     case rel=>
      refine ⟨j+1,by omega,by go_num,?_,D8⟩
      rw [HSN.out]
      refine svc ?_
      rw [← HG.out,← HF2.out]
      simp
     case measure=> simp [intOf];omega
  ·obtain rfl:j=n:=by omega
   rw [List.take_of_length_le (by rw [HN.out];exact Nat.le_refl _)]
   obtain ⟨F0,hF0⟩: ∃F0,sp (tbsT k.tables)=F0:=⟨_,rfl⟩
   have hl0:F0.length+(sp (pcsT k.procs)).length≤99999000:=by rw [← hF0];exact HL.out
   have HF0:=Lib.hid hF0
   rw [hF0]
   clear hF0
   replace X1:=Lib.hid (box_next X1.out hb.out)
   obtain ⟨w3,hw3⟩: ∃w3,w3=wr:=⟨_,rfl⟩
   have D3:Hid (Below w.heap.size w w3):=Lib.hid (by rw [hw3];exact DR.out)
   rw [← hw3]at X1⊢
   clear hw3 hb DR hzr
   obtain ⟨u0,u1⟩:=box2 X1.out
   have hz3:=D3.out.size
   go_wp2_with fail
   clear u0 u1
   go_loopw [3,54] (fun s i wr=> ∃j:Nat,j≤m∧i= .int .i64 j∧s=sv (F0 ++sp (pcsT (k.procs.take j)))∧Hid (Below w3.heap.size w3 wr)) (fun _ i _=> m - (intOf i).toNat)
   case atStart=> exact ⟨0,by omega,rfl,svc (List.append_nil _).symm,Lib.hid (Below.refl _ _)⟩
   case round=>
    obtain ⟨j,hj,rfl,rfl,hb⟩:=hrel
    have hzr:=hb.out.size
    have DR:=Lib.hid (D3.out.trans (hb.out.mono hz3))
    by_cases hlt:j < m
    ·have hlt':j < k.procs.length:=by rw [HM.out];exact hlt
     have hji:(j:Int) < (m:Int):=by omega
     obtain ⟨b1,off1,A1,c1,B1,d1,p1,q1,r1,⟨rfl,hb1⟩,⟨rc1,rs1⟩,hc1⟩:=(P1.out.keep (w':=wr) fun b hB=> DR.out.block b (HS.out b hB)).at_ HS.out hlt'
     have hsn:=pcs_step hlt'
     have hle:=Nat.le_trans (Nat.add_le_add_left (pcs_len k.procs (j+1)) F0.length) hl0
     rw [hsn,List.length_append]at hle
     have HSN:=Lib.hid hsn
     have HOT:=Lib.hid (HK.out.p.2 _ (List.getElem_mem hlt'))
     have RC1:=Lib.hid rc1
     have RS1:=Lib.hid rs1
     clear rc1 rs1 hsn
     generalize k.procs[j]=t at *
     obtain ⟨tn,tp,tb⟩:=t
     obtain ⟨F,hF⟩: ∃F,F0 ++sp (pcsT (k.procs.take j))=F:=⟨_,rfl⟩
     have HF:=Lib.hid hF
     have hFe:F.length=F0.length+(sp (pcsT (k.procs.take j))).length:=by rw [← hF,List.length_append]
     rw [hF]
     clear hF
     rw [pcHead_eq]at hle HSN
     simp only [List.length_append,List.length_cons,List.length_nil]at hle
     dsimp only at hle HSN hc1 RC1 RS1
     have HOK:=Lib.hid (HOT.out.c.2)
     have HOB:=Lib.hid (HOT.out.b.1.1)
     dsimp only at HOK HOB
     have htn:tn.length≤100000000:=by omega
     have hFl:F.length≤100000000:=by omega
     have hbl:(blk tb).length≤100000000:=by omega
     have RB:=Lib.hid ((rpb_any tb).run HOB.out hbl RS1.out (fun b hB=> Nat.lt_of_lt_of_le (HS.out b hB) DR.out.size))
     have hcl:=ps_len tp
     have kc:=RC1.out.cap
     obtain ⟨np,hnp⟩: ∃z,tp.length=z:=⟨_,rfl⟩
     obtain ⟨mb,hmb⟩: ∃z,tb.len=z:=⟨_,rfl⟩
     have HNC:=Lib.hid hnp
     rw [hmb]at RB
     have x0:wr.cell? ⟨b1,off1+j * 6,none⟩=some (sv tn):=hc1 0 (by omega)
     have x1:wr.cell? ⟨b1,off1+j * 6+1,none⟩=some (.slice A1 np c1):=by rw [← hnp];exact hc1 1 (by omega)
     have x2:wr.cell? ⟨b1,off1+j * 6+2,none⟩=some (.slice B1 mb d1):=by rw [← hmb];exact hc1 2 (by omega)
     have x3:wr.cell? ⟨b1,off1+j * 6+3,none⟩=some (nv p1):=hc1 3 (by omega)
     have x4:wr.cell? ⟨b1,off1+j * 6+4,none⟩=some (nv q1):=hc1 4 (by omega)
     have x5:wr.cell? ⟨b1,off1+j * 6+5,none⟩=some (nv r1):=hc1 5 (by omega)
     rw [hnp]at kc
     obtain ⟨u0,u1⟩:=box2 (box_next X1.out hb.out)
     have hwz0:w.heap.size < wr.heap.size:=(Array.getElem?_eq_some_iff.1 (box_next X1.out hb.out)).1
     have hbw:b1 < wr.heap.size:=by omega
     clear HOT hnp hmb hc1
     go_upto_region 16 with fail
     have D4:Below wr.heap.size wr (wr.alloc (.cells #[sv tn,.slice A1 np c1,.slice B1 mb d1,nv p1,nv q1,nv r1] 41)):=(Below.refl _ _).alloc (Nat.le_refl _) _
     obtain ⟨w5,hw5⟩: ∃W,wr.alloc (.cells #[sv tn,.slice A1 np c1,.slice B1 mb d1,nv p1,nv q1,nv r1] 41)=W:=⟨_,rfl⟩
     have Y5:Hid (w5.heap[wr.heap.size]? =some (.cells #[sv tn,.slice A1 np c1,.slice B1 mb d1,nv p1,nv q1,nv r1] 41 (0,0))):=Lib.hid (by rw [← hw5];exact alloc_at rfl)
     rw [hw5]at D4⊢
     clear hw5 x0 x1 x2 x3 x4 x5 u0 u1
     have D45:=Lib.hid D4
     have hz4:=D4.size
     clear D4
     obtain ⟨⟨⟨x0,x1⟩,x2,x3⟩,x4,x5⟩:=box6 Y5.out
     go_wp2_with (refine wpList_cat rfl rfl rfl rfl (by simp;omega) ?_)
     clear x0 x1 x2 x3 x4 x5
     have RC5:Hid (RC w5 S A1 c1 tp):=Lib.hid (RC1.out.keep fun b hB=> D45.out.block b (by have:=HS.out b hB;omega))
     obtain ⟨F2,hF2⟩: ∃F2,F ++112::114::111::99::32::(tn ++ [32,40,32])=F2:=⟨_,rfl⟩
     have HF2:=Lib.hid hF2
     have hF2l:F2.length+(sp (toksPs tp)).length+2+(blk tb).length≤99999000:=by rw [← hF2];simp only [List.length_append,List.length_cons,List.length_nil];omega
     rw [hF2]
     clear hF2 hle
     go_loopw [3,67] (fun s i wr=> ∃z:Nat,z≤np∧i= .int .i64 z∧s=sv (F2 ++sp (toksPs (tp.take z)))∧Hid (Below w5.heap.size w5 wr)) (fun _ i _=> np - (intOf i).toNat)
     case atStart=> exact ⟨0,by omega,rfl,svc (List.append_nil _).symm,Lib.hid (Below.refl _ _)⟩
     case round=>
      obtain ⟨z,hz,rfl,rfl,hbz⟩:=hrel
      have hzz:=hbz.out.size
      have hclz:=hcl z
      by_cases hzl:z < np
      ·have hzl':z < tp.length:=by rw [HNC.out];exact hzl
       have hzi:(z:Int) < (np:Int):=by omega
       obtain ⟨b3,off3,⟨rfl,hb3⟩,hc3⟩:=RC5.out.at_ HS.out hzl'
       have HST1:=Lib.hid (fun h0:0 < tp.length=> ps_first h0)
       have HST2:=Lib.hid (fun h0:0 < z=> ps_next hzl' h0)
       have hcl1:=hcl (z+1)
       have HOC:=Lib.hid (HOK.out _ (List.getElem_mem hzl'))
       have HZ0:Hid (∀h0:z=0,tp[z]=tp[0]'(by omega)):=Lib.hid fun h0=> by subst h0;rfl
       generalize tp[z]=cl at *
       obtain ⟨cn,ck,cm⟩:=cl
       have HC3:=Lib.hid hc3
       clear hc3
       dsimp only [colTx]at HST2 HC3
       have RTy:Hid (∀w:World,Calls Tryz.prog 35 #[.agg #[nv ck,nv cm]] w fun e w'=> e= .returned (sv (tyTx ck cm))∧Below w.heap.size w w'):=Lib.hid fun w=> rtype_any ck cm (okC_ty HOC.out) w
       have hty:(tyTx ck cm).length≤26:=tyTx_len (okC_ty HOC.out)
       clear HOC
       obtain ⟨⟨y0,y1⟩,y2⟩:=HC3.out wr (fun b hB=> hbz.out.block b (by have:=HS.out b hB;omega))
       try dsimp only at y0 y1 y2
       have hb3w:b3 < wr.heap.size:=by omega
       by_cases h0:z=0
       ·subst h0
        have HST:Hid (sp (toksPs (tp.take (0+1)))=cn ++ [32] ++tyTx ck cm ++ [32]):=Lib.hid (by rw [HST1.out hzl',← HZ0.out rfl];rfl)
        have hcl2:=hcl1
        rw [HST.out]at hcl2
        simp only [List.length_append,List.length_cons,List.length_nil]at hcl2
        clear HST1 HST2 HZ0 hcl1
        generalize tyTx ck cm=Y at *
        rw [List.take_zero,show sp (toksPs [])=[] from rfl,List.append_nil]
        obtain ⟨G,HGq⟩: ∃G,Hid (F2=G):=⟨_,Lib.hid rfl⟩
        have HG2:Hid (G ++(cn ++ [32] ++Y ++ [32])=F2 ++(cn ++ [32] ++Y ++ [32])):=Lib.hid (by rw [HGq.out])
        have hGl:G.length+cn.length+50≤100000000:=by rw [← HGq.out];omega
        simp only [Nat.zero_mul,Nat.add_zero]at y0 y1 y2
        rw [HGq.out]
        go_upto_region 20 with fail
        have D6:Below wr.heap.size wr (wr.alloc (.cells #[sv cn,nv ck,nv cm] 72)):=(Below.refl _ _).alloc (Nat.le_refl _) _
        obtain ⟨w6,hw6⟩: ∃W,wr.alloc (.cells #[sv cn,nv ck,nv cm] 72)=W:=⟨_,rfl⟩
        have Z1:Hid (w6.heap[wr.heap.size]? =some (.cells #[sv cn,nv ck,nv cm] 72 (0,0))):=Lib.hid (by rw [← hw6];exact alloc_at rfl)
        rw [hw6]at D6⊢
        clear hw6 y0 y1 y2
        have BD:Below w6.heap.size w6 w6.drew:=(Below.refl _ _).drew
        go_wp2_with fail
        refine wp_region_sched [(0,true),(1,true),(2,true),(3,true),(4,true),(5,true),(6,false),(7,true),(8,true),(9,true),(10,true)] (by kernel_rfl) (by kernel_rfl) (fun _ _ d _ _ h=> by cases d <;> exact h) ?_
        refine swith (fun W hW=> (cells3 (box_next Z1.out ((Below.refl _ _).drew.trans hW.out)))) (fun qx=> ?_)
        repeat (first | (refine srE ?_;simp only [Act.put,sA,sB,sC]) | (refine skE ?_;simp only [Act.put,sA,sB,sC]))
        refine scall rfl rfl (fun K hK=> ?_)
        go_simp
        refine (RTy.out _).mono ?_;rintro e w7 ⟨rfl,b7⟩
        go_wp2_with fail
        refine hK.out _ _ (by exact b7) ?_
        clear hK K
        try simp only [Act.put,sA,sB,sC]
        replace qx:=fun (W:World) (hW:Grow w7 W)=> qx W (Grow.trans (b7) hW)
        repeat (first | (refine srE ?_;simp only [Act.put,sA,sB,sC]) | (refine skE ?_;simp only [Act.put,sA,sB,sC]))
        refine sdone ?_
        have D7:=Lib.hid (bthen hbz.out (bthen D6 (bthen BD b7)))
        clear qx BD b7 D6
        go_wp2_with fail
        go_roundw
        case rel=>
         refine ⟨0+1,by omega,by go_num,?_,D7⟩
         rw [HST.out]
         refine Eq.trans (congrArg Value.string ?_) rfl
         simp only [ba_append]
         first | done | simp
        case measure=> simp [intOf];omega
       ·have h0':0 < z:=by omega
        have HST:=Lib.hid (HST2.out h0')
        have hcl2:=hcl1
        rw [HST.out]at hcl2
        simp only [List.length_append,List.length_cons,List.length_nil]at hcl2
        clear HST1 HST2 HZ0 hcl1
        generalize tyTx ck cm=Y at *
        obtain ⟨G,hG⟩: ∃G,F2 ++sp (toksPs (tp.take z))=G:=⟨_,rfl⟩
        have HG2:Hid (G ++([44,32] ++(cn ++ [32] ++Y ++ [32]))=F2 ++(sp (toksPs (tp.take z)) ++([44,32] ++(cn ++ [32] ++Y ++ [32])))):=Lib.hid (by rw [← hG,List.append_assoc])
        have hGl:G.length+cn.length+50≤100000000:=by rw [← hG];simp only [List.length_append];omega
        rw [hG]
        clear hG
        go_upto_region 20 with fail
        have D6:Below wr.heap.size wr (wr.alloc (.cells #[sv cn,nv ck,nv cm] 72)):=(Below.refl _ _).alloc (Nat.le_refl _) _
        obtain ⟨w6,hw6⟩: ∃W,wr.alloc (.cells #[sv cn,nv ck,nv cm] 72)=W:=⟨_,rfl⟩
        have Z1:Hid (w6.heap[wr.heap.size]? =some (.cells #[sv cn,nv ck,nv cm] 72 (0,0))):=Lib.hid (by rw [← hw6];exact alloc_at rfl)
        rw [hw6]at D6⊢
        clear hw6 y0 y1 y2
        have hz0i:(0:Int) < (z:Int):=by omega
        have BD:Below w6.heap.size w6 w6.drew:=(Below.refl _ _).drew
        go_wp2_with fail
        refine wp_region_sched [(0,true),(1,true),(2,true),(3,true),(4,true),(5,true),(6,false),(7,true),(8,true),(9,true),(10,true)] (by kernel_rfl) (by kernel_rfl) (fun _ _ d _ _ h=> by cases d <;> exact h) ?_
        refine swith (fun W hW=> (cells3 (box_next Z1.out ((Below.refl _ _).drew.trans hW.out)))) (fun qx=> ?_)
        repeat (first | (refine srE ?_;simp only [Act.put,sA,sB,sC]) | (refine skE ?_;simp only [Act.put,sA,sB,sC]))
        refine scall rfl rfl (fun K hK=> ?_)
        go_simp
        refine (RTy.out _).mono ?_;rintro e w7 ⟨rfl,b7⟩
        go_wp2_with fail
        refine hK.out _ _ (by exact b7) ?_
        clear hK K
        try simp only [Act.put,sA,sB,sC]
        replace qx:=fun (W:World) (hW:Grow w7 W)=> qx W (Grow.trans (b7) hW)
        repeat (first | (refine srE ?_;simp only [Act.put,sA,sB,sC]) | (refine skE ?_;simp only [Act.put,sA,sB,sC]))
        refine sdone ?_
        have D7:=Lib.hid (bthen hbz.out (bthen D6 (bthen BD b7)))
        clear qx BD b7 D6
        go_wp2_with fail
        go_roundw
        case rel=>
         refine ⟨z+1,by omega,by go_num,?_,D7⟩
         rw [HST.out]
         refine Eq.trans (congrArg Value.string ?_) (svc HG2.out)
         simp only [ba_append]
         first | done | simp
        case measure=> simp [intOf];omega
      ·obtain rfl:z=np:=by omega
       rw [List.take_of_length_le (by rw [HNC.out];exact Nat.le_refl _)]
       obtain ⟨G,hG⟩: ∃G,F2 ++sp (toksPs tp)=G:=⟨_,rfl⟩
       have HG:=Lib.hid hG
       have hGl:G.length+2+(blk tb).length≤99999000:=by rw [← hG];simp only [List.length_append];omega
       rw [hG]
       clear hG
       have D8:=Lib.hid (bthen D45.out hbz.out)
       obtain ⟨⟨⟨x0,x1⟩,x2,x3⟩,x4,x5⟩:=box6 (box_next Y5.out hbz.out)
       go_wp2_with fail
       refine (RB.out wr D8.out).mono ?_;rintro e w9 ⟨rfl,b9⟩
       have D9:=Lib.hid (bthen hb.out (bthen D8.out b9))
       clear x0 x1 x2 x3 x4 x5
       generalize blk tb=Q at *
       go_wp2_with (refine wpList_cat rfl rfl rfl rfl (by simp;omega) ?_)
       go_roundw
       case rel=>
        refine ⟨j+1,by omega,by go_num,?_,D9⟩
        rw [HSN.out]
        refine svc ?_
        rw [← HG.out,← HF2.out,← HF.out]
        simp
       case measure=> simp [intOf];omega
    ·obtain rfl:j=m:=by omega
     rw [List.take_of_length_le (by rw [HM.out];exact Nat.le_refl _)]
     have hall:F0 ++sp (pcsT k.procs)=sp (toksW k):=by
      rw [← HF0.out,← sp_app];rfl
     have hlen:(sp (toksW k)).length≤99999000:=by rw [← hall,List.length_append];exact hl0
     rw [hall]
     by_cases h0:toksW k=[]
     ·have hR0:R=[]:=by rw [← HR.out,h0];rfl
      rw [h0,sp_nil]
      subst hR0
      clear hall hlen h0
      go_wp2_with fail
      go_ret
      exact ⟨rfl,DR.out⟩
     ·have e:=sp_textOf h0
      rw [HR.out]at e
      rw [e]at hlen⊢
      clear hall h0 e
      have hR1:R.length≤99999000:=by simp at hlen;omega
      have hcut:=cut_at (R ++ [32]) 0 R.length R.length (by omega)
      rw [List.drop_zero,List.take_left' rfl]at hcut
      have hsz:(ByteArray.mk (R ++ [32]).toArray).size=R.length+1:=by simp [ByteArray.size]
      have hpos:(0:Int) < ((R.length:Int)+1):=by omega
      clear hlen
      go_wp2_with fail
      go_ret
      exact ⟨rfl,DR.out⟩
end Go.Proofs.YtnbmpfdffoidaaaGreatDoor.Y
namespace Go.Proofs.YtnbmpfdffoidaaaGreatDoor.Y
open Go.RowKit O V S X
def Tl (l:List Tok):Prop:= ∀t ∈ l,t.2.1.length≤cw 0 t
theorem tl_nil:Tl []:=fun _ h=> by cases h
theorem tl_cons {t:Tok}{l:List Tok}:Tl (t::l) ↔ t.2.1.length≤cw 0 t∧Tl l:=by simp [Tl]
theorem tl_app {l m:List Tok}:Tl (l ++m) ↔ Tl l∧Tl m:=by
 simp only [Tl,List.mem_append]
 exact ⟨fun h=> ⟨fun x hx=> h x (.inl hx),fun x hx=> h x (.inr hx)⟩,fun h x hx=> hx.elim (h.1 x) (h.2 x)⟩
theorem tl_flat {α:Type}{f:α→List Tok}(h: ∀x,Tl (f x)): ∀l:List α,Tl (l.flatMap f)
 | []=> tl_nil
 | x::r=> by rw [List.flatMap_cons];exact tl_app.2 ⟨h x,tl_flat h r⟩
theorem tl_w (s:List UInt8):(tw s).2.1.length≤cw 0 (tw s):=Nat.le_refl _
theorem tl_g (s:List UInt8):(tg s).2.1.length≤cw 0 (tg s):=Nat.le_refl _
theorem tl_n (n:Int):(tn n).2.1.length≤cw 0 (tn n):=Nat.le_refl _
theorem tl_v (v:Val):(tv v).2.1.length≤cw 0 (tv v):=by
 unfold tv
 split
 ·exact tl_n _
 ·split
  ·exact tl_w _
  ·exact Nat.le_refl _
theorem tl_br {x:Ex}{n:Nat}{t:List Tok}(h:Tl t):Tl (br x n t):=by
 unfold br
 split
 ·simp only [tl_cons,tl_app,tl_g,tl_nil,h,and_self]
 ·exact h
theorem tl_x: ∀x:Ex,Tl (toks0 x)
 | .val v=> by simp only [toks0,tl_cons,tl_v,tl_nil,and_self]
 | .var n=> by simp only [toks0,tl_cons,tl_w,tl_nil,and_self]
 | .cell n c k=> by simp only [toks0,tl_cons,tl_app,tl_w,tl_g,tl_nil,tl_x k,and_self]
 | .has n k=> by simp only [toks0,tl_cons,tl_app,tl_w,tl_g,tl_nil,tl_x k,and_self]
 | .sum n c a b=> by simp only [toks0,tl_cons,tl_app,tl_w,tl_g,tl_nil,tl_x a,tl_x b,and_self]
 | .cnt n a b=> by simp only [toks0,tl_cons,tl_app,tl_w,tl_g,tl_nil,tl_x a,tl_x b,and_self]
 | .un op a=> by simp only [toks0,tl_cons,tl_g,tl_br (tl_x a),and_self]
 | .bin op a b=> by simp only [toks0,tl_cons,tl_app,tl_g,tl_br (tl_x a),tl_br (tl_x b),and_self]
theorem tl_els {b:Sts}{t:List Tok}(h:Tl t):Tl (elsT b t):=by
 cases b
 ·exact tl_nil
 ·simp only [elsT,tl_cons,tl_app,tl_w,tl_g,tl_nil,h,and_self]
mutual
theorem tl_s: ∀s:St,Tl (toksS s)
 | .let_ n e=> by simp only [toksS,tl_cons,tl_app,tl_w,tl_g,tl_nil,tl_x,and_self]
 | .set n e=> by simp only [toksS,tl_cons,tl_app,tl_w,tl_g,tl_nil,tl_x,and_self]
 | .put t c k e=> by simp only [toksS,tl_cons,tl_app,tl_w,tl_g,tl_nil,tl_x,and_self]
 | .del t k=> by simp only [toksS,tl_cons,tl_app,tl_w,tl_g,tl_nil,tl_x,and_self]
 | .if_ e b els=> by simp only [toksS,tl_cons,tl_app,tl_w,tl_g,tl_nil,tl_x,tl_b b,tl_els (tl_b els),and_self]
 | .loop k n b=> by simp only [toksS,tl_cons,tl_app,tl_w,tl_g,tl_n,tl_nil,tl_b b,and_self]
 | .each n t lo hi k b=> by simp only [toksS,tl_cons,tl_app,tl_w,tl_g,tl_n,tl_nil,tl_x,tl_b b,and_self]
 | .roll=> by simp only [toksS,tl_cons,tl_w,tl_g,tl_nil,and_self]
 | .emit e=> by simp only [toksS,tl_cons,tl_app,tl_w,tl_g,tl_nil,tl_x,and_self]
theorem tl_b: ∀b:Sts,Tl (toksB b)
 | .nil=> by simp only [toksB,tl_nil]
 | .cons s r=> by simp only [toksB,tl_app,tl_s s,tl_b r,and_self]
end
theorem tl_c (c:Cl):Tl (toksC c):=by
 unfold toksC toksT
 refine tl_cons.2 ⟨tl_w _,?_⟩
 split
 ·simp only [tl_cons,tl_w,tl_nil,and_self]
 ·split <;> simp only [tl_cons,tl_w,tl_n,tl_nil,and_self]
theorem tl_ps (l:List Cl):Tl (toksPs l):=by
 cases l with
 | nil=> exact tl_nil
 | cons c r=> exact tl_app.2 ⟨tl_c c,tl_flat (fun x=> tl_cons.2 ⟨tl_g _,tl_c x⟩) r⟩
theorem tl_k (k:Wk):Tl (toksW k):=by
 unfold toksW
 refine tl_app.2 ⟨tl_flat (fun t=> ?_) _,tl_flat (fun p=> ?_) _⟩
 ·simp only [toksTb,tl_cons,tl_app,tl_w,tl_g,tl_n,tl_nil,and_self,and_true,true_and]
  exact tl_flat (fun c=> tl_app.2 ⟨tl_c c,tl_cons.2 ⟨tl_g _,tl_nil⟩⟩) _
 ·simp only [toksP,tl_cons,tl_app,tl_w,tl_g,tl_nil,tl_ps,tl_b,and_self]
theorem len_w: ∀l:List Tok,l.length≤W 1 l
 | []=> Nat.zero_le _
 | t::l=> by
  have:=len_w l
  rw [W_cons,List.length_cons]
  unfold cw
  omega
theorem sp_w: ∀l:List Tok,Tl l→(sp l).length≤W 1 l
 | [],_=> Nat.zero_le _
 | t::l,h=> by
  have h1:=(tl_cons.1 h).1
  have:=sp_w l (tl_cons.1 h).2
  rw [sp_cons,W_cons,List.length_append,List.length_cons]
  unfold cw at h1⊢
  omega
theorem text_w: ∀l:List Tok,Tl l→(textOf l).length≤W 1 l
 | [],_=> Nat.zero_le _
 | [t],h=> by
  have h1:=(tl_cons.1 h).1
  show t.2.1.length≤_
  rw [W_cons,W_nil]
  unfold cw at h1⊢
  omega
 | t::y::r,h=> by
  have h1:=(tl_cons.1 h).1
  have:=text_w (y::r) (tl_cons.1 h).2
  rw [W_cons]
  show (t.2.1 ++32::textOf (y::r)).length≤_
  rw [List.length_append,List.length_cons]
  unfold cw at h1⊢
  omega
structure HW (w:World)(S:Nat→Prop)(k:Wk)(A:Option Addr)(n c:Nat)(B:Option Addr)(m d:Nat):Prop where
 n:n=k.tables.length
 m:m=k.procs.length
 t:RT w S A c k.tables
 p:RP w S B d k.procs
 lt: ∀b,S b→b < w.heap.size
section
variable {w w':World} {S S':Nat→Prop} {k k':Wk} {A A' B B':Option Addr} {n n' c c' m m' d d':Nat}
theorem HW.next (h:HW w S k A n c B m d){lo:Nat}(hb:Below lo w w')(hl:w.heap.size≤lo):HW w' S k A n c B m d:=
 have hk: ∀b,S b→w'.heap[b]? =w.heap[b]? :=fun b hS=> hb.block b (Nat.lt_of_lt_of_le (h.lt b hS) hl)
 ⟨h.n,h.m,h.t.keep hk,h.p.keep hk,fun b hS=> Nat.lt_of_lt_of_le (h.lt b hS) hb.size⟩
theorem HW.of (h:WkR w S k (.agg #[.slice A n c,.slice B m d]))(hl: ∀b,S b→b < w.heap.size):HW w S k A n c B m d:=by
 obtain ⟨A1,c1,es,B1,d1,fs,e,ha,hb,hc⟩:=h
 simp only [Value.agg.injEq,Array.mk.injEq,List.cons.injEq,Value.slice.injEq,and_true]at e
 obtain ⟨⟨rfl,rfl,rfl⟩,rfl,rfl,rfl⟩:=e
 exact ⟨rfl,rfl,⟨es,ha⟩,⟨fs,hb,hc⟩,hl⟩
theorem HW.r (h:HW w S k A n c B m d):WkR w S k (.agg #[.slice A n c,.slice B m d]):=by
 obtain ⟨rfl,rfl,⟨es,ha⟩,⟨fs,hb,hc⟩,_⟩:=h
 exact ⟨A,c,es,B,d,fs,rfl,ha,hb,hc⟩
theorem bare_h (h:HW w S k A n c B m d)(ok:okWw k):Calls Tryz.prog 11 #[.agg #[.slice A n c,.slice B m d]] w fun e w'=>
  (∃A' c' B' d' S',e= .returned (.agg #[.slice A' n c',.slice B' m d'])∧HW w' S' k A' n c' B' m d'∧∃fs,Row w' S' 6 B' m d' fs∧Reps (PcZ w' S') k.procs fs)∧Below w.heap.size w w':=by
 obtain ⟨rfl,rfl,ht,hp,hl⟩:=h
 refine (bareW_any k.tables k.procs ok.t ok.p A c B d S w ht hp hl).mono ?_
 rintro e w' ⟨⟨A1,c1,B1,d1,S1,rfl,⟨h1,fs,h2,h3⟩,hin⟩,hb⟩
 exact ⟨⟨A1,c1,B1,d1,S1,rfl,⟨rfl,rfl,h1,⟨fs,h2,h3.imp fun _ _=> PcZ.r⟩,fun b hS=> (hin b hS).2⟩,fs,h2,h3⟩,hb⟩
theorem same_h (h:HW w S k A n c B m d)(h':HW w S' k' A' n' c' B' m' d'):Calls Tryz.prog 13 #[.agg #[.slice A n c,.slice B m d],.agg #[.slice A' n' c',.slice B' m' d']] w fun e w'=> RetQ (k=k') e∧Below w.heap.size w w':=by
 obtain ⟨rfl,rfl,ht,hp,hl⟩:=h
 obtain ⟨rfl,rfl,ht',hp',hl'⟩:=h'
 refine (sameWk_any _ _ _ _ A A' c c' B B' d d' S S' w ⟨ht,hp⟩ ⟨ht',hp'⟩ hl hl').mono ?_
 rintro e w' ⟨⟨b,rfl,hb⟩,hw⟩
 refine ⟨⟨b,rfl,hb.trans ⟨fun h=> ?_,fun h=> ?_⟩⟩,hw⟩
 ·cases k;cases k';obtain ⟨rfl,rfl⟩:=h;rfl
 ·subst h;exact ⟨rfl,rfl⟩
theorem rsame_h (h:HW w S k A n c B m d)(h':HW w S' k' A' n' c' B' m' d'):Calls Tryz.prog 9 #[.agg #[.slice A n c,.slice B m d],.agg #[.slice A' n' c',.slice B' m' d'],.bool false] w fun e w'=> RetQ (k=k') e∧Below w.heap.size w w':=
 sameW_any k k' _ _ S S' w h.r h'.r h.lt h'.lt
theorem print_h (h:HW w S k A n c B m d)(ok:okWw k)(hw:W 1 (toksW k)≤4500):Calls Tryz.prog 8 #[.agg #[.slice A n c,.slice B m d]] w fun e w'=> e= .returned (sv (textOf (toksW k)))∧Below w.heap.size w w':=by
 have h1:=len_w (toksW k)
 have h2:=text_w (toksW k) (tl_k k)
 exact printW_any k ok (by omega) (by omega) _ S w h.r h.lt
theorem rprint_h (h:HW w S k A n c B m d)(ok:okWw k)(hw:W 1 (toksW k)≤4500):Calls Tryz.prog 12 #[.agg #[.slice A n c,.slice B m d]] w fun e w'=> e= .returned (sv (textOf (toksW k)))∧Below w.heap.size w w':=by
 have h1:=sp_w (toksW k) (tl_k k)
 exact rprintW_any k ok (by omega) _ S w h.r h.lt
theorem rparse_h (s:List UInt8)(w:World)(hs:s.length≤1500):Calls Tryz.prog 10 #[sv s] w fun e w'=>
  (∃k A n c B m d er x y z S,e= .returned (.tuple #[.agg #[.slice A n c,.slice B m d],nv er,.agg #[nv x,nv y,nv z]])∧HW w' S k A n c B m d∧okWw k∧W 1 (toksW k)≤4500)∧Below w.heap.size w w':=by
 refine (rparse_f s w (by omega)).mono ?_
 rintro e w' ⟨⟨k,A,n,c,B,m,d,er,x,y,z,rfl,⟨S,hk,hin⟩,ok,hw⟩,hb⟩
 exact ⟨⟨k,A,n,c,B,m,d,er,x,y,z,S,rfl,HW.of hk fun b hS=> (hin b hS).2,ok,Nat.le_trans hw (by omega)⟩,hb⟩
end
end Go.Proofs.YtnbmpfdffoidaaaGreatDoor.Y
namespace Go.Proofs.YtnbmpfdffoidaaaGreatDoor.Y
open Go.RowKit O V S X
def Plain (s:List UInt8):Prop:= ∀i (h:i < s.length),s[i].toNat≠10∧s[i].toNat≠35∧s[i].toNat≠34
structure Ly (w:World)(g:Nat)(s:List UInt8)(i:Nat):Prop where
 box:w.heap[g]? =some (.cells #[nv i,nv 1,nv 0,sv s] 99 (0,0))
 i:i≤s.length
 n:s.length≤20000
 p:Plain s
theorem Ly.lt {w:World}{g:Nat}{s:List UInt8}{i:Nat}(h:Ly w g s i):g < w.heap.size:=(Array.getElem?_eq_some_iff.1 h.box).1
theorem Ly.next {w W:World}{g:Nat}{s:List UInt8}{i:Nat}(h:Ly w g s i)(b:Below w.heap.size w W):Ly W g s i:=⟨box_next h.box b,h.i,h.n,h.p⟩
theorem zrun (F:Nat)(p:UInt8→Bool)(hcall: ∀args w,(callFunc F args).run Tryz.prog w= .ok (.enter F args) w)(hF: ∀(c:UInt8) (w:World),Calls Tryz.prog F #[.int .u8 (c.toNat:Int)] w fun e w'=> e= .returned (.bool (p c))∧w=w')(g:Nat)(s:List UInt8)(i:Nat)(w:World)(h:Ly w g s i):Calls Tryz.prog 79 #[.pointer (some ⟨g,0,none⟩),.func (.func F) #[] #[]] w fun e w'=> e= .returned (nv (runLen p (s.drop i)))∧Below w.heap.size w w':=by
 have hi:=h.i
 have hn:=h.n
 have HL:=Lib.hid h
 have hsz:(ByteArray.mk s.toArray).size=s.length:=by simp [ByteArray.size]
 clear h
 go_enter Tryz.func79,Tryz.ntmps79
 go_wp2_with fail
 go_loopw [4] (fun v wr=> ∃k:Nat,i+k≤s.length∧v= .int .i64 k∧Hid (((s.drop i).take k).all p=true)∧Below w.heap.size w wr) (fun v _=> s.length - (intOf v).toNat)
 case atStart=> exact ⟨0,by omega,rfl,Lib.hid (by simp),Below.refl _ _⟩
 case round=>
  obtain ⟨k,hk,rfl,H,hb⟩:=hrel
  obtain ⟨m,hm⟩: ∃m,i+k=m:=⟨_,rfl⟩
  have hwr:IntKind.i64.wrap ((i:Int)+(k:Int))=(m:Int):=by rw [IntWalk.i64_in _ (by omega)];omega
  by_cases hlt:m < s.length
  ·have hlt':k < (s.drop i).length:=by simp;omega
   have hst:=Lib.hid (all_snoc (p:=p) hlt' H.out)
   have hno:=Lib.hid (run_step (p:=p) hlt' H.out)
   generalize hc:(s.drop i)[k]=c at hst hno
   rw [List.getElem_drop]at hc
   have hx:=ba_at s m hlt (by simpa only [hm]using hc)
   have d1:decide ((m:Int) < (s.length:Int))=true:=by simp;omega
   have d2:decide (m < s.length)=true:=by simp;omega
   have hm1:i+k≤m∧m≤i+k:=by omega
   clear hm hc
   go_wp2_with fail
   refine wp_region_sched [(0,true),(1,true),(2,true),(3,true),(4,true),(5,true),(6,true),(7,true),(8,true),(9,true),(10,true),(11,true),(12,true),(13,true),(14,true),(15,true),(16,true),(17,true),(18,true),(19,true),(20,true),(21,true),(22,true),(23,true),(24,true),(25,true),(26,true),(27,false),(28,true)] (by kernel_rfl) (by kernel_rfl) (fun _ _ d _ _ h=> by cases d <;> exact h) ?_
   refine swith (fun W hW=> (cells4 (HL.out.next (hb.drew.trans (hW.out.mono hb.size))).box)) (fun q=> ?_)
   repeat (first | (refine srE ?_;simp only [Act.put,sA,sB,sC]) | (refine skE ?_;simp only [Act.put,sA,sB,sC]))
   refine scall rfl rfl (fun K hK=> ?_)
   go_simp
   refine (hF c _).mono ?_;rintro e w2 ⟨rfl,rfl⟩
   go_wp2_with fail
   refine hK.out _ _ (by exact Grow.refl _) ?_
   clear hK K
   try simp only [Act.put,sA,sB,sC]
   cases hp:p c
   ·have hno':=Lib.hid (hno.out.trans (if_neg (by simp [hp])))
    repeat (first | (refine srE ?_;simp only [Act.put,sA,sB,sC]) | (refine skE ?_;simp only [Act.put,sA,sB,sC]))
    refine sdone ?_
    clear q hwr
    go_wp2_with fail
    go_ret
    exact ⟨by rw [hno'.out];rfl,hb.drew⟩
   ·have hst':=Lib.hid (hst.out hp)
    repeat (first | (refine srE ?_;simp only [Act.put,sA,sB,sC]) | (refine skE ?_;simp only [Act.put,sA,sB,sC]))
    refine sdone ?_
    clear q hwr
    go_wp2_with fail
    go_roundw
    case rel=> exact ⟨k+1,by omega,by go_num,hst',hb.drew⟩
    case measure=> simp [intOf];omega
  ·have d1:decide ((m:Int) < (s.length:Int))=false:=by simp;omega
   have d2:decide (m < s.length)=false:=by simp;omega
   have hm1:i+k≤m∧m≤i+k:=by omega
   clear hm
   go_wp2_with fail
   refine wp_region_sched [(0,true),(1,true),(2,true),(3,true),(4,true),(5,true),(6,true),(7,true),(8,true),(9,true),(10,true),(11,true),(12,true),(13,true),(14,true),(15,true),(16,true),(17,true),(18,true),(19,true),(20,true),(21,true),(22,true),(23,true),(24,true),(25,true),(26,true),(27,false),(28,true)] (by kernel_rfl) (by kernel_rfl) (fun _ _ d _ _ h=> by cases d <;> exact h) ?_
   refine swith (fun W hW=> (cells4 (HL.out.next (hb.drew.trans (hW.out.mono hb.size))).box)) (fun q=> ?_)
   repeat (first | (refine srE ?_;simp only [Act.put,sA,sB,sC]) | (refine skE ?_;simp only [Act.put,sA,sB,sC]))
   refine sdone ?_
   clear q hwr
   go_wp2_with fail
   go_ret
   have he:runLen p (s.drop i)=k:=by
    have h1:=H.out
    rw [List.take_of_length_le (by simp;omega)]at h1
    rw [X.run_all h1];simp;omega
   exact ⟨by rw [he];rfl,hb.drew⟩
theorem Ly.set {w:World}{g:Nat}{s:List UInt8}{i k:Nat}(h:Ly w g s i)(hk:k≤s.length):Ly (w.setCell ⟨g,0,none⟩ (nv k)) g s k:=⟨heap_set (i:=0) h.box (nv k),hk,h.n,h.p⟩
theorem zpass (g:Nat)(s:List UInt8)(i n:Nat)(w:World)(h:Ly w g s i)(hin:i+n≤s.length):Calls Tryz.prog 78 #[.pointer (some ⟨g,0,none⟩),nv n] w fun e w'=> e= .returned (sv ((s.drop i).take n))∧Ly w' g s (i+n)∧Mod [g] w w':=by
 have hn:=h.n
 have HL:=Lib.hid h
 have hgl:=h.lt
 have hsz:(ByteArray.mk s.toArray).size=s.length:=by simp [ByteArray.size]
 obtain ⟨m,hm⟩: ∃m,m=i+n:=⟨_,rfl⟩
 have hwr:IntKind.i64.wrap ((i:Int)+(n:Int))=(m:Int):=by rw [IntWalk.i64_in _ (by omega)];omega
 have hcut:=cut_at s i n m hm
 have hlast:Lib.lastIndexByte ⟨((s.drop i).take n).toArray⟩ 10=-1:=by
  rcases last_cases ((s.drop i).take n)with ⟨h1,_⟩ | ⟨p,hp,_,h2,_⟩
  ·exact h1
  ·have hp2:p < n:=by simp at hp;omega
   rw [getD_cut hin hp2,List.getD_eq_getElem?_getD,List.getElem?_eq_getElem (by omega)]at h2
   exact absurd h2 (h.p (i+p) (by omega)).1
 have hul:((s.drop i).take n).length=n:=by simp;omega
 have hmi:m≤s.length:=by omega
 have him:i≤m:=by omega
 rw [← hm]
 clear h hm
 generalize (s.drop i).take n=u at *
 go_enter Tryz.func78,Tryz.ntmps78
 go_wp2_with fail
 refine wp_region_sched [(0,true),(1,true),(2,true),(3,true),(4,true),(5,true),(6,true),(7,true),(8,true),(9,true),(10,true),(11,true),(12,true),(13,true),(14,true),(15,true),(16,true),(17,true)] (by kernel_rfl) (by kernel_rfl) (fun _ _ d _ _ h=> by cases d <;> exact h) ?_
 refine swith (fun W hW=> (cells4 (HL.out.next ((Below.refl _ _).drew.trans (hW.out.mono (Nat.le_refl _)))).box)) (fun q=> ?_)
 repeat (first | (refine srE ?_;simp only [Act.put,sA,sB,sC]) | (refine skE ?_;simp only [Act.put,sA,sB,sC]))
 refine sdone ?_
 clear q
 have L1:=Lib.hid (HL.out.next (Below.refl _ _).drew)
 obtain ⟨⟨x0,x1⟩,x2,x3⟩:=cells4 L1.out.box
 have f0:=Lib.frozen_of_heap L1.out.box 0
 go_wp2_with fail
 refine (Tryz.strings_LastIndexByte ⟨u.toArray⟩ 10 (by simp [ByteArray.size];omega) _).mono ?_;rintro e w2 ⟨rfl,rfl⟩
 rw [hlast]
 go_wp2_with fail
 go_ret
 exact ⟨rfl,L1.out.set hmi,(Mod.of_below (Below.refl _ _).drew).set (.inl (by simp)) _⟩
def gapZ (s:List UInt8)(i:Nat):Nat:=i+runLen blankC (s.drop i)
theorem zgap (g:Nat)(s:List UInt8)(i:Nat)(w:World)(h:Ly w g s i):Calls Tryz.prog 41 #[.pointer (some ⟨g,0,none⟩)] w fun e w'=> e= .returned (.tuple #[])∧Ly w' g s (gapZ s i)∧Mod [g] w w':=by
 have hn:=h.n
 have hi:=h.i
 have HL:=Lib.hid h
 have hsz:(ByteArray.mk s.toArray).size=s.length:=by simp [ByteArray.size]
 have hk:=drop_take_len blankC hi
 have hc1:=Tryz.call80
 unfold gapZ
 clear h
 go_enter Tryz.func41,Tryz.ntmps41
 go_wp2_with fail
 go_loopw [] (fun wr=> wr=w) (fun wr=> 0)
 case atStart=> rfl
 case round=>
  obtain rfl:=hrel
  go_wp2_with fail
  refine (zrun 80 blankC hc1 lblank_any g s i _ HL.out).mono ?_;rintro e w1 ⟨rfl,b1⟩
  have L1:=Lib.hid (HL.out.next b1)
  have B1:=Lib.hid b1
  clear b1
  generalize hk1:runLen blankC (s.drop i)=k1 at *
  go_wp2_with fail
  refine (zpass g s i k1 _ L1.out hk).mono ?_;rintro e w2 ⟨rfl,l2,m2⟩
  have L2:=Lib.hid l2
  have M2:=Lib.hid ((Mod.of_below B1.out).then m2)
  clear l2 m2 L1 B1
  obtain ⟨j1,hj1⟩: ∃j1,i+k1=j1:=⟨_,rfl⟩
  rw [hj1]at hk L2
  have HJ:Hid (i+runLen blankC (s.drop i)=j1):=Lib.hid (by rw [hk1];exact hj1)
  clear hj1 hk1
  by_cases hend:j1=s.length
  ·have d1:((j1:Int)==(s.length:Int))=true:=by simp;omega
   clear hend
   go_wp2_with fail
   refine wp_region_sched [(0,true),(1,true),(2,true),(3,true),(4,true),(5,true),(6,true),(7,true),(8,true),(9,true),(10,true),(11,true),(12,true),(13,true),(14,true),(15,true),(16,true),(17,true),(18,true),(19,true),(20,true),(21,true),(22,true),(23,true)] (by kernel_rfl) (by kernel_rfl) (fun _ _ d _ _ h=> by cases d <;> exact h) ?_
   refine swith (fun W hW=> (cells4 (L2.out.next ((Below.refl _ _).drew.trans (hW.out.mono (Nat.le_refl _)))).box)) (fun q=> ?_)
   repeat (first | (refine srE ?_;simp only [Act.put,sA,sB,sC]) | (refine skE ?_;simp only [Act.put,sA,sB,sC]))
   refine sdone ?_
   clear q
   go_wp2_with fail
   first | go_end0 | refine bodyPost_ret (results_none rfl _ _ _) rfl ?_
   exact ⟨rfl,by rw [HJ.out];exact L2.out.next (Below.refl _ _).drew,M2.out.then (Mod.of_below (Below.refl _ _).drew)⟩
  ·have d1:((j1:Int)==(s.length:Int))=false:=by simp;omega
   have hlt:j1 < s.length:=by omega
   have h35:=(L2.out.p j1 hlt).2.1
   generalize hc:s[j1]=c at h35
   have hx:=ba_at s j1 hlt hc
   have e1:((c.toNat:Int) !=35)=true:=by simp;omega
   have e1':((c.toNat:Int)==35)=false:=by simp;omega
   clear hc hend h35
   go_wp2_with fail
   refine wp_region_sched [(0,true),(1,true),(2,true),(3,true),(4,true),(5,true),(6,true),(7,true),(8,true),(9,true),(10,true),(11,true),(12,true),(13,true),(14,true),(15,true),(16,true),(17,true),(18,true),(19,true),(20,true),(21,true),(22,true),(23,true)] (by kernel_rfl) (by kernel_rfl) (fun _ _ d _ _ h=> by cases d <;> exact h) ?_
   refine swith (fun W hW=> (cells4 (L2.out.next ((Below.refl _ _).drew.trans (hW.out.mono (Nat.le_refl _)))).box)) (fun q=> ?_)
   repeat (first | (refine srE ?_;simp only [Act.put,sA,sB,sC]) | (refine skE ?_;simp only [Act.put,sA,sB,sC]))
   refine sdone ?_
   clear q
   go_wp2_with fail
   first | go_end0 | refine bodyPost_ret (results_none rfl _ _ _) rfl ?_
   exact ⟨rfl,by rw [HJ.out];exact L2.out.next (Below.refl _ _).drew,M2.out.then (Mod.of_below (Below.refl _ _).drew)⟩
end Go.Proofs.YtnbmpfdffoidaaaGreatDoor.Y
