/- Texts of the proof, joined: SynRp2, SynRp3, SynCat, SynRb. -/
import Derived.Test.YtnbmpfdffoidaaaGreatDoorPr06
import Derived.Test.YtnbmpfdffoidaaaGreatDoorPr09
import Derived.Test.YtnbmpfdffoidaaaGreatDoorPr14
set_option linter.unusedVariables false
set_option linter.unusedSimpArgs false
set_option maxHeartbeats 8000000
set_option maxRecDepth 100000
namespace Go.Proofs.YtnbmpfdffoidaaaGreatDoor.Y
open Go.RowKit O V S X
def aT (l:List Ex):List UInt8:=l.flatMap fun y=> [44,32] ++sp (toks0 y)
theorem aT_snoc (l:List Ex)(y:Ex):aT (l ++ [y])=aT l ++([44,32] ++sp (toks0 y)):=by unfold aT;rw [List.flatMap_append];simp
theorem aT_len_le (l:List Ex)(k:Nat):(aT (l.take k)).length≤(aT l).length:=by
 conv=> rhs;rw [← List.take_append_drop k l]
 unfold aT
 rw [List.flatMap_append,List.length_append]
 omega
theorem aT_take_le {l:List Ex}{k:Nat}(h:k < l.length):(aT (l.take k)).length+2+(sp (toks0 l[k])).length≤(aT l).length:=by
 have:=aT_len_le l (k+1)
 rw [List.take_succ_eq_append_getElem h,aT_snoc,List.length_append,List.length_append]at this
 simp only [List.length_cons,List.length_nil]at this
 omega
def RPX (x:Ex)(least:Nat):Prop:=(sp (toksX x least)).length≤100000000→∀(A:Option Addr) (c:Nat) (p q r:Int) (S:Nat→Prop) (w:World),ExAt w S x A c→(∀b,S b→b < w.heap.size)→
 RunE 73 #[exX x A c p q r,nv least] (sp (toksX x least)) w
section
variable (vk vn:Int) (vs nm cc:List UInt8) (o:Int) (A:Option Addr) (c:Nat) (p q r:Int) (w:World) (l:List Ex) (S:Nat→Prop)
theorem rq4 (hn2:l.length≤2)(hx:RX w S A c l)(hS: ∀b,S b→b < w.heap.size)(ih: ∀y ∈ l,RPX y 0)(least:Nat)(hl:least≤7)(hlen1:(aT l).length≤100000000)(hlim:nm.length+cc.length+(aT l).length+20≤100000100):RunE 73 #[exVal 4 vk vn vs nm cc o (.slice A l.length c) p q r,nv least] (w_has ++ [32,40,32] ++nm ++ [32] ++aT l ++ [41,32]) w:=by
 intro w' hbw
 have HW:=Lib.hid hbw
 clear hbw
 have dl: ¬(7:Int) < (least:Int):=by omega
 obtain ⟨n,hn⟩: ∃n,l.length=n:=⟨_,rfl⟩
 rw [hn]at hn2⊢
 have HX:=Lib.hid hx
 have HS:=Lib.hid hS
 have HI:=Lib.hid ih
 have HN:=Lib.hid hn
 clear hx hS ih hn
 have hnm:nm.length≤100000100:=by omega
 have hcm:cc.length≤100000100:=by omega
 go_enter Tryz.func73,Tryz.ntmps73
 go_upto_region 1 with fail
 have BX:Hid ((w'.alloc (exO 4 vk vn vs nm cc o (.slice A n c) p q r)).heap[w'.heap.size]? =some (exB 4 vk vn vs nm cc o (.slice A n c) p q r)):=Lib.hid (alloc_at rfl)
 have FW:Hid (Below w'.heap.size w' (w'.alloc (exO 4 vk vn vs nm cc o (.slice A n c) p q r))):=Lib.hid one_new
 obtain ⟨w1,hw1⟩: ∃W,w'.alloc (exO 4 vk vn vs nm cc o (.slice A n c) p q r)=W:=⟨_,rfl⟩
 rw [hw1]at BX FW⊢
 clear hw1
 obtain ⟨⟨⟨⟨x0,x1⟩,x2,x3⟩,⟨x4,x5⟩,x6,x7⟩,⟨x8,x9⟩,x10⟩:=cells11 BX.out
 have hlt1:w'.heap.size < w1.heap.size:=(Array.getElem?_eq_some_iff.1 BX.out).1
 go_wp2_with fail
 go_region
 go_wp2_with fail
 have hs:ByteArray.mk #[104,97,115] ++ByteArray.mk #[32,40,32] ++ByteArray.mk nm.toArray ++ByteArray.mk #[32]=ByteArray.mk (w_has ++ [32,40,32] ++nm ++ [32]).toArray:=by
  show ByteArray.mk w_has.toArray ++ByteArray.mk [32,40,32].toArray ++ByteArray.mk nm.toArray ++ByteArray.mk [32].toArray=_
  rw [ba_append,ba_append,ba_append]
 obtain ⟨F,hF⟩: ∃Z:List UInt8,w_has ++ [32,40,32] ++nm ++ [32]=Z:=⟨_,rfl⟩
 have hFl:F.length+(aT l).length+2≤100000100:=by rw [← hF];have:=hlim;simp [w_has,w_sum,w_count]at this⊢;omega
 rw [hs,hF]
 clear hs
 have HF:=Lib.hid hF
 clear hF hlim
 clear x0 x1 x2 x3 x4 x5 x6 x7 x8 x9 x10
 obtain ⟨w3,hw3⟩: ∃W,(w1.alloc (Obj.cells #[.string ⟨#[104,97,115]⟩,.string ⟨#[115,117,109]⟩,.string ⟨#[99,111,117,110,116]⟩] 9)).drew=W:=⟨_,rfl⟩
 have F3:Hid (Below w'.heap.size w' w3):=Lib.hid (bthen FW.out (by rw [← hw3];exact ((Below.refl _ _).alloc (Nat.le_refl _) _).drew))
 rw [hw3]
 clear hw3 FW BX hlt1
 go_loopw [6,80] (fun s i wr=> ∃k:Nat,k≤n∧i= .int .i64 k∧s=sv (F ++aT (l.take k))∧Below w'.heap.size w' wr) (fun _ i _=> n - (intOf i).toNat)
 case atStart=> exact ⟨0,Nat.zero_le _,rfl,by rw [List.take_zero];show _=sv (F ++ []);rw [List.append_nil],F3.out⟩
 case round=>
  obtain ⟨k,hk,rfl,rfl,hb⟩:=hrel
  by_cases hlk:k < n
  ·have hlk':k < l.length:=by rw [HN.out];exact hlk
   have hbw:=bthen HW.out hb
   have HB:=Lib.hid hbw
   obtain ⟨b,off,A',c',p',q',r',rfl,hb1,hc,h3⟩:=(HX.out.keep (w':=wr) fun b hB=> hbw.block b (HS.out b hB)).at_ HS.out hlk'
   have hle:=aT_take_le hlk'
   have hsn:aT (l.take (k+1))=aT (l.take k) ++([44,32] ++sp (toks0 l[k])):=by rw [List.take_succ_eq_append_getElem hlk',aT_snoc]
   have hpx:=HI.out l[k] (List.getElem_mem hlk')
   have HSN:=Lib.hid hsn
   have HLE:=Lib.hid hle
   have H3:Hid (ExAt wr S l[k] A' c'):=Lib.hid ⟨h3⟩
   have HPX:=Lib.hid hpx
   clear hsn hle h3 hpx
   generalize l[k]=y at *
   have y0:wr.cell? ⟨b,off+k * 11,none⟩=some (nv (hdK y)):=hc 0 (by omega)
   have y1:wr.cell? ⟨b,off+k * 11+1,none⟩=some (nv (hdV y).k):=hc 1 (by omega)
   have y2:wr.cell? ⟨b,off+k * 11+2,none⟩=some (nv (hdV y).n):=hc 2 (by omega)
   have y3:wr.cell? ⟨b,off+k * 11+3,none⟩=some (sv (hdV y).s):=hc 3 (by omega)
   have y4:wr.cell? ⟨b,off+k * 11+4,none⟩=some (sv (hdN y)):=hc 4 (by omega)
   have y5:wr.cell? ⟨b,off+k * 11+5,none⟩=some (sv (hdC y)):=hc 5 (by omega)
   have y6:wr.cell? ⟨b,off+k * 11+6,none⟩=some (nv (hdO y:Nat)):=hc 6 (by omega)
   have y7:wr.cell? ⟨b,off+k * 11+7,none⟩=some (.slice A' (parts y).length c'):=hc 7 (by omega)
   have y8:wr.cell? ⟨b,off+k * 11+8,none⟩=some (nv p'):=hc 8 (by omega)
   have y9:wr.cell? ⟨b,off+k * 11+9,none⟩=some (nv q'):=hc 9 (by omega)
   have y10:wr.cell? ⟨b,off+k * 11+10,none⟩=some (nv r'):=hc 10 (by omega)
   clear hc
   have hki:(k:Int) < (n:Int):=by omega
   have hz:=hbw.size
   have hbr:b < wr.heap.size:=by omega
   have e0:toksX y 0=toks0 y:=toksX_no (by omega)
   have hspl:(sp (toks0 y)).length≤100000000:=by have:=HLE.out;omega
   have hFk:(F ++aT (l.take k)).length≤100000200:=by have:=HLE.out;simp;omega
   go_wp2_with fail
   refine (HPX.out (by rw [e0];exact hspl) A' c' p' q' r' S _ (H3.out.keep (fun b hB=> one_new.block b (by have:=HS.out b hB;omega))) (fun b hB=> by have:=HS.out b hB;simp;omega) _ (Below.refl _ _)).mono ?_;rintro e w6 ⟨rfl,b6⟩
   rw [e0]
   go_wp2_with fail
   ·exfalso
    rename_i hbig
    simp at hbig hFk
    omega
   go_roundw
   case rel=>
    refine ⟨k+1,by omega,by go_num,?_,hb.trans ((bthen one_new b6).mono hb.size)⟩
    rw [HSN.out]
    show Value.string (ByteArray.mk (F ++aT (l.take k)).toArray ++(ByteArray.mk [44,32].toArray ++ByteArray.mk (sp (toks0 y)).toArray))=_
    rw [ba_append,ba_append,List.append_assoc]
   case measure=> simp [intOf];omega
  ·obtain rfl:k=n:=by omega
   have hall:l.take k=l:=List.take_of_length_le (by rw [HN.out];exact Nat.le_refl _)
   rw [hall]
   have hFl':(F ++aT l).length≤100000200:=by simp;omega
   go_wp2_with fail
   go_ret
   refine ⟨?_,hb⟩
   show Ending.returned (.string (ByteArray.mk (F ++aT l).toArray ++ByteArray.mk [41,32].toArray))=_
   rw [ba_append,← HF.out]
   try simp
theorem rq6 (hn2:l.length≤2)(hx:RX w S A c l)(hS: ∀b,S b→b < w.heap.size)(ih: ∀y ∈ l,RPX y 0)(least:Nat)(hl:least≤7)(hlen1:(aT l).length≤100000000)(hlim:nm.length+cc.length+(aT l).length+20≤100000100):RunE 73 #[exVal 6 vk vn vs nm cc o (.slice A l.length c) p q r,nv least] (w_count ++ [32,40,32] ++nm ++ [32] ++aT l ++ [41,32]) w:=by
 intro w' hbw
 have HW:=Lib.hid hbw
 clear hbw
 have dl: ¬(7:Int) < (least:Int):=by omega
 obtain ⟨n,hn⟩: ∃n,l.length=n:=⟨_,rfl⟩
 rw [hn]at hn2⊢
 have HX:=Lib.hid hx
 have HS:=Lib.hid hS
 have HI:=Lib.hid ih
 have HN:=Lib.hid hn
 clear hx hS ih hn
 have hnm:nm.length≤100000100:=by omega
 have hcm:cc.length≤100000100:=by omega
 go_enter Tryz.func73,Tryz.ntmps73
 go_upto_region 1 with fail
 have BX:Hid ((w'.alloc (exO 6 vk vn vs nm cc o (.slice A n c) p q r)).heap[w'.heap.size]? =some (exB 6 vk vn vs nm cc o (.slice A n c) p q r)):=Lib.hid (alloc_at rfl)
 have FW:Hid (Below w'.heap.size w' (w'.alloc (exO 6 vk vn vs nm cc o (.slice A n c) p q r))):=Lib.hid one_new
 obtain ⟨w1,hw1⟩: ∃W,w'.alloc (exO 6 vk vn vs nm cc o (.slice A n c) p q r)=W:=⟨_,rfl⟩
 rw [hw1]at BX FW⊢
 clear hw1
 obtain ⟨⟨⟨⟨x0,x1⟩,x2,x3⟩,⟨x4,x5⟩,x6,x7⟩,⟨x8,x9⟩,x10⟩:=cells11 BX.out
 have hlt1:w'.heap.size < w1.heap.size:=(Array.getElem?_eq_some_iff.1 BX.out).1
 go_wp2_with fail
 go_region
 go_wp2_with fail
 have hs:ByteArray.mk #[99,111,117,110,116] ++ByteArray.mk #[32,40,32] ++ByteArray.mk nm.toArray ++ByteArray.mk #[32]=ByteArray.mk (w_count ++ [32,40,32] ++nm ++ [32]).toArray:=by
  show ByteArray.mk w_count.toArray ++ByteArray.mk [32,40,32].toArray ++ByteArray.mk nm.toArray ++ByteArray.mk [32].toArray=_
  rw [ba_append,ba_append,ba_append]
 obtain ⟨F,hF⟩: ∃Z:List UInt8,w_count ++ [32,40,32] ++nm ++ [32]=Z:=⟨_,rfl⟩
 have hFl:F.length+(aT l).length+2≤100000100:=by rw [← hF];have:=hlim;simp [w_has,w_sum,w_count]at this⊢;omega
 rw [hs,hF]
 clear hs
 have HF:=Lib.hid hF
 clear hF hlim
 clear x0 x1 x2 x3 x4 x5 x6 x7 x8 x9 x10
 obtain ⟨w3,hw3⟩: ∃W,(w1.alloc (Obj.cells #[.string ⟨#[104,97,115]⟩,.string ⟨#[115,117,109]⟩,.string ⟨#[99,111,117,110,116]⟩] 9)).drew=W:=⟨_,rfl⟩
 have F3:Hid (Below w'.heap.size w' w3):=Lib.hid (bthen FW.out (by rw [← hw3];exact ((Below.refl _ _).alloc (Nat.le_refl _) _).drew))
 rw [hw3]
 clear hw3 FW BX hlt1
 go_loopw [6,80] (fun s i wr=> ∃k:Nat,k≤n∧i= .int .i64 k∧s=sv (F ++aT (l.take k))∧Below w'.heap.size w' wr) (fun _ i _=> n - (intOf i).toNat)
 case atStart=> exact ⟨0,Nat.zero_le _,rfl,by rw [List.take_zero];show _=sv (F ++ []);rw [List.append_nil],F3.out⟩
 case round=>
  obtain ⟨k,hk,rfl,rfl,hb⟩:=hrel
  by_cases hlk:k < n
  ·have hlk':k < l.length:=by rw [HN.out];exact hlk
   have hbw:=bthen HW.out hb
   have HB:=Lib.hid hbw
   obtain ⟨b,off,A',c',p',q',r',rfl,hb1,hc,h3⟩:=(HX.out.keep (w':=wr) fun b hB=> hbw.block b (HS.out b hB)).at_ HS.out hlk'
   have hle:=aT_take_le hlk'
   have hsn:aT (l.take (k+1))=aT (l.take k) ++([44,32] ++sp (toks0 l[k])):=by rw [List.take_succ_eq_append_getElem hlk',aT_snoc]
   have hpx:=HI.out l[k] (List.getElem_mem hlk')
   have HSN:=Lib.hid hsn
   have HLE:=Lib.hid hle
   have H3:Hid (ExAt wr S l[k] A' c'):=Lib.hid ⟨h3⟩
   have HPX:=Lib.hid hpx
   clear hsn hle h3 hpx
   generalize l[k]=y at *
   have y0:wr.cell? ⟨b,off+k * 11,none⟩=some (nv (hdK y)):=hc 0 (by omega)
   have y1:wr.cell? ⟨b,off+k * 11+1,none⟩=some (nv (hdV y).k):=hc 1 (by omega)
   have y2:wr.cell? ⟨b,off+k * 11+2,none⟩=some (nv (hdV y).n):=hc 2 (by omega)
   have y3:wr.cell? ⟨b,off+k * 11+3,none⟩=some (sv (hdV y).s):=hc 3 (by omega)
   have y4:wr.cell? ⟨b,off+k * 11+4,none⟩=some (sv (hdN y)):=hc 4 (by omega)
   have y5:wr.cell? ⟨b,off+k * 11+5,none⟩=some (sv (hdC y)):=hc 5 (by omega)
   have y6:wr.cell? ⟨b,off+k * 11+6,none⟩=some (nv (hdO y:Nat)):=hc 6 (by omega)
   have y7:wr.cell? ⟨b,off+k * 11+7,none⟩=some (.slice A' (parts y).length c'):=hc 7 (by omega)
   have y8:wr.cell? ⟨b,off+k * 11+8,none⟩=some (nv p'):=hc 8 (by omega)
   have y9:wr.cell? ⟨b,off+k * 11+9,none⟩=some (nv q'):=hc 9 (by omega)
   have y10:wr.cell? ⟨b,off+k * 11+10,none⟩=some (nv r'):=hc 10 (by omega)
   clear hc
   have hki:(k:Int) < (n:Int):=by omega
   have hz:=hbw.size
   have hbr:b < wr.heap.size:=by omega
   have e0:toksX y 0=toks0 y:=toksX_no (by omega)
   have hspl:(sp (toks0 y)).length≤100000000:=by have:=HLE.out;omega
   have hFk:(F ++aT (l.take k)).length≤100000200:=by have:=HLE.out;simp;omega
   go_wp2_with fail
   refine (HPX.out (by rw [e0];exact hspl) A' c' p' q' r' S _ (H3.out.keep (fun b hB=> one_new.block b (by have:=HS.out b hB;omega))) (fun b hB=> by have:=HS.out b hB;simp;omega) _ (Below.refl _ _)).mono ?_;rintro e w6 ⟨rfl,b6⟩
   rw [e0]
   go_wp2_with fail
   ·exfalso
    rename_i hbig
    simp at hbig hFk
    omega
   go_roundw
   case rel=>
    refine ⟨k+1,by omega,by go_num,?_,hb.trans ((bthen one_new b6).mono hb.size)⟩
    rw [HSN.out]
    show Value.string (ByteArray.mk (F ++aT (l.take k)).toArray ++(ByteArray.mk [44,32].toArray ++ByteArray.mk (sp (toks0 y)).toArray))=_
    rw [ba_append,ba_append,List.append_assoc]
   case measure=> simp [intOf];omega
  ·obtain rfl:k=n:=by omega
   have hall:l.take k=l:=List.take_of_length_le (by rw [HN.out];exact Nat.le_refl _)
   rw [hall]
   have hFl':(F ++aT l).length≤100000200:=by simp;omega
   go_wp2_with fail
   go_ret
   refine ⟨?_,hb⟩
   show Ending.returned (.string (ByteArray.mk (F ++aT l).toArray ++ByteArray.mk [41,32].toArray))=_
   rw [ba_append,← HF.out]
   try simp
theorem rq5 (hn2:l.length≤2)(hx:RX w S A c l)(hS: ∀b,S b→b < w.heap.size)(ih: ∀y ∈ l,RPX y 0)(least:Nat)(hl:least≤7)(hlen1:(aT l).length≤100000000)(hlim:nm.length+cc.length+(aT l).length+20≤100000100):RunE 73 #[exVal 5 vk vn vs nm cc o (.slice A l.length c) p q r,nv least] (w_sum ++ [32,40,32] ++nm ++ [32] ++([46,32] ++cc ++ [32]) ++aT l ++ [41,32]) w:=by
 intro w' hbw
 have HW:=Lib.hid hbw
 clear hbw
 have dl: ¬(7:Int) < (least:Int):=by omega
 obtain ⟨n,hn⟩: ∃n,l.length=n:=⟨_,rfl⟩
 rw [hn]at hn2⊢
 have HX:=Lib.hid hx
 have HS:=Lib.hid hS
 have HI:=Lib.hid ih
 have HN:=Lib.hid hn
 clear hx hS ih hn
 have hnm:nm.length≤100000100:=by omega
 have hcm:cc.length≤100000100:=by omega
 go_enter Tryz.func73,Tryz.ntmps73
 go_upto_region 1 with fail
 have BX:Hid ((w'.alloc (exO 5 vk vn vs nm cc o (.slice A n c) p q r)).heap[w'.heap.size]? =some (exB 5 vk vn vs nm cc o (.slice A n c) p q r)):=Lib.hid (alloc_at rfl)
 have FW:Hid (Below w'.heap.size w' (w'.alloc (exO 5 vk vn vs nm cc o (.slice A n c) p q r))):=Lib.hid one_new
 obtain ⟨w1,hw1⟩: ∃W,w'.alloc (exO 5 vk vn vs nm cc o (.slice A n c) p q r)=W:=⟨_,rfl⟩
 rw [hw1]at BX FW⊢
 clear hw1
 obtain ⟨⟨⟨⟨x0,x1⟩,x2,x3⟩,⟨x4,x5⟩,x6,x7⟩,⟨x8,x9⟩,x10⟩:=cells11 BX.out
 have hlt1:w'.heap.size < w1.heap.size:=(Array.getElem?_eq_some_iff.1 BX.out).1
 go_wp2_with fail
 go_region
 go_wp2_with fail
 have hs:ByteArray.mk #[115,117,109] ++ByteArray.mk #[32,40,32] ++ByteArray.mk nm.toArray ++ByteArray.mk #[32] ++(ByteArray.mk #[46,32] ++ByteArray.mk cc.toArray ++ByteArray.mk #[32])=ByteArray.mk (w_sum ++ [32,40,32] ++nm ++ [32] ++([46,32] ++cc ++ [32])).toArray:=by
  show ByteArray.mk w_sum.toArray ++ByteArray.mk [32,40,32].toArray ++ByteArray.mk nm.toArray ++ByteArray.mk [32].toArray ++(ByteArray.mk [46,32].toArray ++ByteArray.mk cc.toArray ++ByteArray.mk [32].toArray)=_
  rw [ba_append,ba_append,ba_append,ba_append,ba_append,ba_append]
 obtain ⟨F,hF⟩: ∃Z:List UInt8,w_sum ++ [32,40,32] ++nm ++ [32] ++([46,32] ++cc ++ [32])=Z:=⟨_,rfl⟩
 have hFl:F.length+(aT l).length+2≤100000100:=by rw [← hF];have:=hlim;simp [w_has,w_sum,w_count]at this⊢;omega
 rw [hs,hF]
 clear hs
 have HF:=Lib.hid hF
 clear hF hlim
 clear x0 x1 x2 x3 x4 x5 x6 x7 x8 x9 x10
 obtain ⟨w3,hw3⟩: ∃W,(w1.alloc (Obj.cells #[.string ⟨#[104,97,115]⟩,.string ⟨#[115,117,109]⟩,.string ⟨#[99,111,117,110,116]⟩] 9)).drew=W:=⟨_,rfl⟩
 have F3:Hid (Below w'.heap.size w' w3):=Lib.hid (bthen FW.out (by rw [← hw3];exact ((Below.refl _ _).alloc (Nat.le_refl _) _).drew))
 rw [hw3]
 clear hw3 FW BX hlt1
 go_loopw [6,80] (fun s i wr=> ∃k:Nat,k≤n∧i= .int .i64 k∧s=sv (F ++aT (l.take k))∧Below w'.heap.size w' wr) (fun _ i _=> n - (intOf i).toNat)
 case atStart=> exact ⟨0,Nat.zero_le _,rfl,by rw [List.take_zero];show _=sv (F ++ []);rw [List.append_nil],F3.out⟩
 case round=>
  obtain ⟨k,hk,rfl,rfl,hb⟩:=hrel
  by_cases hlk:k < n
  ·have hlk':k < l.length:=by rw [HN.out];exact hlk
   have hbw:=bthen HW.out hb
   have HB:=Lib.hid hbw
   obtain ⟨b,off,A',c',p',q',r',rfl,hb1,hc,h3⟩:=(HX.out.keep (w':=wr) fun b hB=> hbw.block b (HS.out b hB)).at_ HS.out hlk'
   have hle:=aT_take_le hlk'
   have hsn:aT (l.take (k+1))=aT (l.take k) ++([44,32] ++sp (toks0 l[k])):=by rw [List.take_succ_eq_append_getElem hlk',aT_snoc]
   have hpx:=HI.out l[k] (List.getElem_mem hlk')
   have HSN:=Lib.hid hsn
   have HLE:=Lib.hid hle
   have H3:Hid (ExAt wr S l[k] A' c'):=Lib.hid ⟨h3⟩
   have HPX:=Lib.hid hpx
   clear hsn hle h3 hpx
   generalize l[k]=y at *
   have y0:wr.cell? ⟨b,off+k * 11,none⟩=some (nv (hdK y)):=hc 0 (by omega)
   have y1:wr.cell? ⟨b,off+k * 11+1,none⟩=some (nv (hdV y).k):=hc 1 (by omega)
   have y2:wr.cell? ⟨b,off+k * 11+2,none⟩=some (nv (hdV y).n):=hc 2 (by omega)
   have y3:wr.cell? ⟨b,off+k * 11+3,none⟩=some (sv (hdV y).s):=hc 3 (by omega)
   have y4:wr.cell? ⟨b,off+k * 11+4,none⟩=some (sv (hdN y)):=hc 4 (by omega)
   have y5:wr.cell? ⟨b,off+k * 11+5,none⟩=some (sv (hdC y)):=hc 5 (by omega)
   have y6:wr.cell? ⟨b,off+k * 11+6,none⟩=some (nv (hdO y:Nat)):=hc 6 (by omega)
   have y7:wr.cell? ⟨b,off+k * 11+7,none⟩=some (.slice A' (parts y).length c'):=hc 7 (by omega)
   have y8:wr.cell? ⟨b,off+k * 11+8,none⟩=some (nv p'):=hc 8 (by omega)
   have y9:wr.cell? ⟨b,off+k * 11+9,none⟩=some (nv q'):=hc 9 (by omega)
   have y10:wr.cell? ⟨b,off+k * 11+10,none⟩=some (nv r'):=hc 10 (by omega)
   clear hc
   have hki:(k:Int) < (n:Int):=by omega
   have hz:=hbw.size
   have hbr:b < wr.heap.size:=by omega
   have e0:toksX y 0=toks0 y:=toksX_no (by omega)
   have hspl:(sp (toks0 y)).length≤100000000:=by have:=HLE.out;omega
   have hFk:(F ++aT (l.take k)).length≤100000200:=by have:=HLE.out;simp;omega
   go_wp2_with fail
   refine (HPX.out (by rw [e0];exact hspl) A' c' p' q' r' S _ (H3.out.keep (fun b hB=> one_new.block b (by have:=HS.out b hB;omega))) (fun b hB=> by have:=HS.out b hB;simp;omega) _ (Below.refl _ _)).mono ?_;rintro e w6 ⟨rfl,b6⟩
   rw [e0]
   go_wp2_with fail
   ·exfalso
    rename_i hbig
    simp at hbig hFk
    omega
   go_roundw
   case rel=>
    refine ⟨k+1,by omega,by go_num,?_,hb.trans ((bthen one_new b6).mono hb.size)⟩
    rw [HSN.out]
    show Value.string (ByteArray.mk (F ++aT (l.take k)).toArray ++(ByteArray.mk [44,32].toArray ++ByteArray.mk (sp (toks0 y)).toArray))=_
    rw [ba_append,ba_append,List.append_assoc]
   case measure=> simp [intOf];omega
  ·obtain rfl:k=n:=by omega
   have hall:l.take k=l:=List.take_of_length_le (by rw [HN.out];exact Nat.le_refl _)
   rw [hall]
   have hFl':(F ++aT l).length≤100000200:=by simp;omega
   go_wp2_with fail
   go_ret
   refine ⟨?_,hb⟩
   show Ending.returned (.string (ByteArray.mk (F ++aT l).toArray ++ByteArray.mk [41,32].toArray))=_
   rw [ba_append,← HF.out]
   try simp
end
end Go.Proofs.YtnbmpfdffoidaaaGreatDoor.Y
namespace Go.Proofs.YtnbmpfdffoidaaaGreatDoor.Y
open Go.RowKit O V S X
theorem part_at {x:Ex}{A:Option Addr}{c:Nat}{S:Nat→Prop}{i:Nat}{w:World}(hi:i < (parts x).length)(h:ExAt w S x A c)(hS: ∀b,S b→b < w.heap.size):
  ∃A' c' p' q' r',PartE (.slice A (parts x).length c) i (exX (parts x)[i] A' c' p' q' r') w∧ExAt w S (parts x)[i] A' c':=by
 obtain ⟨b,off,A',c',p',q',r',rfl,hb,hc,h3⟩:=h.part hS hi
 refine ⟨A',c',p',q',r',fun w' hw=> ?_,h3⟩
 exact part_raw b off (parts x).length c i rfl hi (by have:=parts_len x;omega) _ _ _ _ _ _ _ A' _ c' p' q' r' w' (by have:=hw.size;omega) (fun j hj=> (hw.cell (p:=⟨b,off+i * 11+j,none⟩) hb).trans (hc j hj))
theorem sp_brk (x:Ex):sp (tg [40]::(toks0 x ++ [tg [41]]))=[40,32] ++sp (toks0 x) ++ [41,32]:=by
 rw [sp_cons,sp_app,sp_cons,sp_nil]
 simp [tg]
def RPX0 (x:Ex):Prop:= ∀least,least≤lvlX x→RPX x least
theorem RPX0.all {x:Ex}(hx:okX x)(h:RPX0 x): ∀least,RPX x least:=by
 intro least
 by_cases hl:least≤lvlX x
 ·exact h least hl
 ·intro hlen A c p q r S w hat hS
  rw [toksX_yes (by omega),sp_brk]at hlen⊢
  have hT:(sp (toks0 x)).length≤100000000:=by simp at hlen;omega
  have h0:=h 0 (by omega) (by rw [toksX_no (by omega)];exact hT) A c p q r S w hat hS
  rw [toksX_no (by omega)]at h0
  cases x with
  | bin op a b=> exact rbrk_bin _ _ _ _ _ _ _ _ _ _ _ w op least hx.1 _ (by have:lvlX (.bin op a b)=lvlS op:=rfl;omega) (by omega) h0
  | un op a=> exact rbrk_un _ _ _ _ _ _ _ _ _ _ _ _ w least _ (by have:lvlX (.un op a)=6:=rfl;omega) (by omega) h0
  | val v=> exact rbrk_leaf _ _ _ _ _ _ _ _ _ _ _ _ _ w least _ (by simp [hdK]) (by simp [hdK]) (by have:lvlX (.val v)=7:=rfl;omega) (by omega) h0
  | var n=> exact rbrk_leaf _ _ _ _ _ _ _ _ _ _ _ _ _ w least _ (by simp [hdK]) (by simp [hdK]) (by have:lvlX (.var n)=7:=rfl;omega) (by omega) h0
  | cell n col k=> exact rbrk_leaf _ _ _ _ _ _ _ _ _ _ _ _ _ w least _ (by simp [hdK]) (by simp [hdK]) (by have:lvlX (.cell n col k)=7:=rfl;omega) (by omega) h0
  | has n k=> exact rbrk_leaf _ _ _ _ _ _ _ _ _ _ _ _ _ w least _ (by simp [hdK]) (by simp [hdK]) (by have:lvlX (.has n k)=7:=rfl;omega) (by omega) h0
  | sum n col a b=> exact rbrk_leaf _ _ _ _ _ _ _ _ _ _ _ _ _ w least _ (by simp [hdK]) (by simp [hdK]) (by have:lvlX (.sum n col a b)=7:=rfl;omega) (by omega) h0
  | cnt n a b=> exact rbrk_leaf _ _ _ _ _ _ _ _ _ _ _ _ _ w least _ (by simp [hdK]) (by simp [hdK]) (by have:lvlX (.cnt n a b)=7:=rfl;omega) (by omega) h0
theorem rpx_any: ∀x,okX x→∀least,RPX x least:=
 Ex.ind fun x ih hx=> by
  refine RPX0.all hx fun least hl hlen A c p q r S w hat hS=> ?_
  rw [toksX_no hl]at hlen⊢
  cases x with
  | val v=>
   have h1:v.s.length≤100000000∧-9223372036854775808≤v.n∧v.n≤9223372036854775807:=by
    have hx:okV v:=hx
    obtain ⟨k,n,s⟩:=v
    rcases right_cases hx.1 with ⟨e,e2⟩ | ⟨e,e2,e3⟩ | ⟨e,e2,e3⟩
    ·have:=hx.2 e
     simp only at e2 this⊢
     rw [e2]
     simp only [List.length_nil]
     omega
    ·simp only at e2 e3⊢
     rw [e2]
     simp only [List.length_nil]
     omega
    ·have:=plain_len e3
     simp only at e2 this⊢
     omega
   have e:sp (toks0 (.val v))=printV ⟨v.k,v.n,v.s⟩ ++ [32]:=by
    show sp [tv v]=_
    rw [sp_cons,sp_nil,tv_text (show okV v from hx).1]
   rw [e]at hlen⊢
   exact rval_raw v.k v.n v.s [] [] 0 A 0 c p q r w least hl h1.1 h1.2.1 h1.2.2 (by simp at hlen;omega)
  | var n=>
   have e:sp (toks0 (.var n))=n ++ [32]:=by
    show sp [tw n]=_
    rw [sp_cons,sp_nil];rfl
   rw [e]at hlen⊢
   exact rvar_raw 0 0 [] n [] 0 A 0 c p q r w least hl (by simp at hlen;omega)
  | cell n col k=>
   obtain ⟨A',c',p',q',r',h1,h2⟩:=part_at (i:=0) (by simp [parts]) hat hS
   have e:sp (toks0 (.cell n col k))=n ++ [32,91,32] ++sp (toks0 k) ++ [93,32,46,32] ++col ++ [32]:=by
    rw [toks0]
    simp [sp_cons,sp_app,sp_nil,tw,tg]
   rw [e]at hlen⊢
   have hk:=ih k (by simp [parts]) hx.2.2 0 (by rw [toksX_no (by omega)];simp at hlen;omega) A' c' p' q' r' S w h2 hS
   rw [toksX_no (by omega)]at hk
   exact rcell_raw 0 0 [] n col 0 A 1 c p q r w least hl (by simp at hlen;omega) (by simp at hlen;omega) _ _ (by simp at hlen;omega) h1 hk
  | un op a=>
   obtain ⟨A',c',p',q',r',h1,h2⟩:=part_at (i:=0) (by simp [parts]) hat hS
   have e:sp (toks0 (.un op a))=(if op=13 then [33,32]else [45,32]) ++sp (toksX a 6):=by
    rw [toks0,sp_cons]
    split <;> rfl
   rw [e]at hlen⊢
   have hk:=ih a (by simp [parts]) hx.2 6 (by simp at hlen;omega) A' c' p' q' r' S w h2 hS
   exact run_raw 0 0 [] [] [] A 1 c p q r w op least hx.1 hl _ _ (by simp at hlen;omega) h1 hk
  | bin op a b=>
   obtain ⟨A',c',p',q',r',h1,h2⟩:=part_at (i:=0) (by simp [parts]) hat hS
   obtain ⟨A2,c2,p2,q2,r2,h3,h4⟩:=part_at (i:=1) (by simp [parts]) hat hS
   have e:sp (toks0 (.bin op a b))=sp (toksX a (lvlS op)) ++signS op ++ [32] ++sp (toksX b (lvlS op+1)):=by
    rw [toks0]
    simp [sp_cons,sp_app,tg,toksX]
   rw [e]at hlen⊢
   have hk:=ih a (by simp [parts]) hx.2.1 (lvlS op) (by simp at hlen;omega) A' c' p' q' r' S w h2 hS
   have hk2:=ih b (by simp [parts]) hx.2.2 (lvlS op+1) (by simp at hlen;omega) A2 c2 p2 q2 r2 S w h4 hS
   exact rbin_raw 0 0 [] [] [] A 2 c p q r w op least (lvlS op+1) hx.1 hl rfl _ _ _ _ (by simp at hlen;omega) (by simp at hlen;omega) h1 h3 hk hk2
  | has n k=>
   have e:sp (toks0 (.has n k))=w_has ++ [32,40,32] ++n ++ [32] ++aT [k] ++ [41,32]:=by
    rw [toks0]
    simp [sp_cons,sp_app,sp_nil,tw,tg,aT]
   rw [e]at hlen⊢
   exact rq4 0 0 [] n [] 0 A c p q r w [k] S (by simp) hat.ex hS (fun y hy=> ih y hy (by simp at hy;subst hy;exact hx.2) 0) least hl (by simp [w_has]at hlen⊢;omega) (by simp [w_has]at hlen⊢;omega)
  | sum n col a b=>
   have e:sp (toks0 (.sum n col a b))=w_sum ++ [32,40,32] ++n ++ [32] ++([46,32] ++col ++ [32]) ++aT [a,b] ++ [41,32]:=by
    rw [toks0]
    simp [sp_cons,sp_app,sp_nil,tw,tg,aT]
   rw [e]at hlen⊢
   exact rq5 0 0 [] n col 0 A c p q r w [a,b] S (by simp) hat.ex hS (fun y hy=> ih y hy (by simp at hy;rcases hy with rfl | rfl;exact hx.2.2.1;exact hx.2.2.2) 0) least hl (by simp [w_sum]at hlen⊢;omega) (by simp [w_sum]at hlen⊢;omega)
  | cnt n a b=>
   have e:sp (toks0 (.cnt n a b))=w_count ++ [32,40,32] ++n ++ [32] ++aT [a,b] ++ [41,32]:=by
    rw [toks0]
    simp [sp_cons,sp_app,sp_nil,tw,tg,aT]
   rw [e]at hlen⊢
   exact rq6 0 0 [] n [] 0 A c p q r w [a,b] S (by simp) hat.ex hS (fun y hy=> ih y hy (by simp at hy;rcases hy with rfl | rfl;exact hx.2.1;exact hx.2.2) 0) least hl (by simp [w_count]at hlen⊢;omega) (by simp [w_count]at hlen⊢;omega)
end Go.Proofs.YtnbmpfdffoidaaaGreatDoor.Y
namespace Go.Proofs.YtnbmpfdffoidaaaGreatDoor.Y
open Go.RowKit O V S X
theorem cat_run (l m:List UInt8)(hlen:l.length+m.length≤9223372036854775807)(w:World):(binOp .add 9 (sv l) (sv m)).run Tryz.prog w= .ok (sv (l ++m)) w:=by
 go_simp
 rw [if_neg (by omega)]
 rw [ba_append]
theorem wpList_cat {w:World}{ops:Array Oper}{rest:List Oper}{o:Oper}{a:Act}{Q:Exit→Act→World→Prop}(hgd:o.guard=none){x y:Operand}(ho:o.op= .binOp .add 9 x y 9)
  {l m:List UInt8} (hx:a.eval x=sv l) (hy:a.eval y=sv m) (hlen:l.length+m.length≤9223372036854775807) (h:wpList Tryz.prog ops Q rest (a.put o.dst (sv (l ++m))) w):wpList Tryz.prog ops Q (o::rest) a w:=by
 refine wpList_plain hgd fun K hK=> ?_
 have hr:=cat_run l m hlen w
 unfold Oper.wp execOp
 simp only [ho,hx,hy,eqGuard,Sem.run_bind,Sem.run_pure,Result.andThen_ok,hr]
 simp only [Bool.not_false,if_true,Sem.run_pure,Result.andThen_ok,hr]
 exact hK _ _ h
end Go.Proofs.YtnbmpfdffoidaaaGreatDoor.Y
namespace Go.Proofs.YtnbmpfdffoidaaaGreatDoor.Y
open Go.RowKit O V S X
abbrev zeV:Value:=exVal 0 0 0 [] [] [] 0 (.slice none 0 0) 0 0 0
theorem part_zero (A:Option Addr)(n c i:Nat){z:Int}(hz:z=i)(hi:n≤i)(w:World):Calls Tryz.prog 74 #[.slice A n c,.int .i64 z] w fun e w'=> e= .returned zeV∧Below w.heap.size w w':=by
 subst hz
 have hki: ¬(i:Int) < (n:Int):=by omega
 go_enter Tryz.func74,Tryz.ntmps74
 go_wp2_with fail
 refine bodyPost_ret (v:=zeV) (by simp [results,Tryz.results74,go_sem]) rfl ?_
 refine ⟨rfl,?_⟩
 repeat (first | (with_reducible exact Below.refl _ _) | (with_reducible assumption) | refine Below.setCell ?_ (by simp <;> omega) _ | refine Below.alloc ?_ (by simp <;> omega) _ | refine Below.drew ?_)
theorem rzero_any (w:World):Calls Tryz.prog 73 #[zeV,nv 0] w fun e w'=> e= .returned (sv [])∧Below w.heap.size w w':=by
 go_enter Tryz.func73,Tryz.ntmps73
 go_wp2_with fail
 go_ret
 refine ⟨rfl,?_⟩
 repeat (first | (with_reducible exact Below.refl _ _) | (with_reducible assumption) | refine Below.setCell ?_ (by simp <;> omega) _ | refine Below.alloc ?_ (by simp <;> omega) _ | refine Below.drew ?_)
def aTx (l:List Ex)(i:Nat):List UInt8:=match l[i]? with
 | some x=> sp (toks0 x)
 | none=> []
theorem part_print (l:List Ex)(i:Nat){z:Int}(hz:z=i)(ok: ∀x ∈ l,okX x)(hlen:(aTx l i).length≤100000000)(A:Option Addr)(c:Nat)(S:Nat→Prop)(w:World)(h:RX w S A c l)(hS: ∀b,S b→b < w.heap.size)(hl:l.length≤2):
  Calls Tryz.prog 74 #[.slice A l.length c,.int .i64 z] w fun e w'=> (∃V,e= .returned V∧RunE 73 #[V,nv 0] (aTx l i) w')∧Below w.heap.size w w':=by
 by_cases hi:i < l.length
 ·obtain ⟨b,off,A',c',p',q',r',rfl,hb,hc,h3⟩:=h.at_ hS hi
  have e:aTx l i=sp (toks0 l[i]):=by unfold aTx;rw [List.getElem?_eq_getElem hi]
  rw [e]at hlen⊢
  refine (part_raw b off l.length c i hz hi (by omega) _ _ _ _ _ _ _ A' _ c' p' q' r' w hb hc).mono ?_
  rintro e w' ⟨rfl,b'⟩
  refine ⟨⟨_,rfl,?_⟩,b'⟩
  have hx:=rpx_any l[i] (ok _ (List.getElem_mem hi)) 0 (by rw [toksX_no (by omega)];exact hlen) A' c' p' q' r' S w' ⟨(RX.keep h3 fun k hk=> b'.block k (hS k hk))⟩ (fun k hk=> Nat.lt_of_lt_of_le (hS k hk) b'.size)
  rw [toksX_no (by omega)]at hx
  exact hx
 ·have e:aTx l i=[]:=by unfold aTx;rw [List.getElem?_eq_none (by omega)]
  rw [e]
  refine (part_zero A l.length c i hz (by omega) w).mono ?_
  rintro e w' ⟨rfl,b'⟩
  exact ⟨⟨_,rfl,fun w2 _=> rzero_any w2⟩,b'⟩
theorem rnum_any (n:Int)(w:World)(h1:-9223372036854775808≤n)(h2:n≤9223372036854775807):Calls Tryz.prog 34 #[nv n] w fun e w'=> e= .returned (sv (decL n ++ [32]))∧Below w.heap.size w w':=by
 have hd:(decL n).length≤21:=by
  unfold decL
  have:=digN_len20 n.natAbs (by omega)
  split <;> simp <;> omega
 go_enter Tryz.func34,Tryz.ntmps34
 go_wp2_with fail
 refine (rdec_any n _ h1 h2).mono ?_;rintro e w2 ⟨rfl,b2⟩
 go_wp2_with (refine wpList_cat rfl rfl rfl rfl (by simp;omega) ?_)
 go_ret
 exact ⟨rfl,b2⟩
theorem toksB_list: ∀b:Sts,toksB b=b.list.flatMap toksS
 | .nil=> by rw [toksB];rfl
 | .cons s r=> by rw [toksB,Sts.list,List.flatMap_cons,toksB_list r]
theorem okB_list: ∀{b:Sts},okB b→∀x ∈ b.list,okS x
 | .nil,_,x,hx=> by cases hx
 | .cons s r,h,x,hx=> by
  rw [okB]at h
  rcases List.mem_cons.1 hx with rfl | hx
  ·exact h.1
  ·exact okB_list h.2 x hx
def toksL (l:List St):List Tok:=l.flatMap toksS
theorem toksL_snoc (l:List St)(x:St):toksL (l ++ [x])=toksL l ++toksS x:=by unfold toksL;rw [List.flatMap_append];simp
theorem toksL_len (l:List St)(k:Nat):(sp (toksL (l.take k))).length≤(sp (toksL l)).length:=by
 conv=> rhs;rw [← List.take_append_drop k l]
 unfold toksL
 rw [List.flatMap_append,sp_app,List.length_append]
 omega
theorem toksL_step {l:List St}{k:Nat}(h:k < l.length):sp (toksL (l.take (k+1)))=sp (toksL (l.take k)) ++sp (toksS l[k]):=by
 rw [List.take_succ_eq_append_getElem h,toksL_snoc,sp_app]
def RPB (b:Sts):Prop:=okB b→(sp (toksB b)).length+4≤100000000→∀(A:Option Addr) (c:Nat) (S:Nat→Prop) (w:World),RS w S A c b→(∀k,S k→k < w.heap.size)→
 Calls Tryz.prog 36 #[.slice A b.len c] w fun e w'=> e= .returned (sv ([123,32] ++sp (toksB b) ++ [125,32]))∧Below w.heap.size w w'
abbrev stO (x:St)(a b e:Value)(p q r:Int):Obj:= .cells #[nv (stK x),sv (stN x),sv (stT x),sv (stC x),nv (stI x),a,b,e,nv p,nv q,nv r] 44
theorem stA_ok {x:St}(h:okS x): ∀e ∈ stA x,okX e:=by
 cases x <;> simp only [okS]at h <;> simp [stA] <;> simp_all
theorem aTx_len (x:St)(i:Nat):(aTx (stA x) i).length≤(sp (toksS x)).length:=by
 cases x <;> (rcases i with _ | _ | i) <;> simp [aTx,stA,toksS,sp_cons,sp_app] <;> omega
theorem stx_let (n:List UInt8)(e:Ex):sp (toksS (.let_ n e))=[108,101,116,32] ++n ++ [32,61,32] ++sp (toks0 e) ++ [59,32]:=by
 rw [toksS];simp [sp_cons,sp_app,sp_nil,tw,tg,w_let]
theorem stx_set (n:List UInt8)(e:Ex):sp (toksS (.set n e))=n ++ [32,61,32] ++sp (toks0 e) ++ [59,32]:=by
 rw [toksS];simp [sp_cons,sp_app,sp_nil,tw,tg]
theorem stx_put (t c:List UInt8)(k e:Ex):sp (toksS (.put t c k e))=t ++ [32,91,32] ++sp (toks0 k) ++ [93,32,46,32] ++c ++ [32,61,32] ++sp (toks0 e) ++ [59,32]:=by
 rw [toksS];simp [sp_cons,sp_app,sp_nil,tw,tg]
theorem stx_del (t:List UInt8)(k:Ex):sp (toksS (.del t k))=[100,101,108,32] ++t ++ [32,91,32] ++sp (toks0 k) ++ [93,32,59,32]:=by
 rw [toksS];simp [sp_cons,sp_app,sp_nil,tw,tg,w_del]
theorem stx_roll:sp (toksS .roll)=[114,111,108,108,98,97,99,107,32,59,32]:=by
 rw [toksS];simp [sp_cons,sp_nil,tw,tg,w_rollback]
theorem stx_emit (e:Ex):sp (toksS (.emit e))=[101,109,105,116,32] ++sp (toks0 e) ++ [59,32]:=by
 rw [toksS];simp [sp_cons,sp_app,sp_nil,tw,tg,w_emit]
theorem aTx_0 (a:Ex)(l:List Ex):aTx (a::l) 0=sp (toks0 a):=rfl
theorem aTx_1 (a b:Ex)(l:List Ex):aTx (a::b::l) 1=sp (toks0 b):=rfl
theorem aTx_10 (a:Ex):aTx [a] 1=[]:=rfl
theorem aTx_nil (i:Nat):aTx [] i=[]:=rfl
def blk (b:Sts):List UInt8:=[123,32] ++sp (toksB b) ++ [125,32]
def elsX:Sts→List UInt8
 | .nil=> []
 | b=> [101,108,115,101,32] ++blk b
theorem elsX_len (b:Sts):(sp (toksB b)).length≤(elsX b).length:=by
 cases b with
 | nil=> simp [toksB,sp_nil]
 | cons s r=> simp [elsX,blk];omega
theorem elsX_pos {b:Sts}(h:0 < b.len):elsX b=[101,108,115,101,32] ++blk b:=by
 cases b with
 | nil=> simp [Sts.len]at h
 | cons s r=> rfl
theorem elsX_zero {b:Sts}(h:b.len=0):elsX b=[]:=by
 cases b with
 | nil=> rfl
 | cons s r=> simp [Sts.len]at h
theorem blk_len (b:Sts):(blk b).length=(sp (toksB b)).length+4:=by simp [blk]
theorem stx_if (e:Ex)(b els:Sts):sp (toksS (.if_ e b els))=[105,102,32] ++sp (toks0 e) ++blk b ++elsX els:=by
 rw [toksS];cases els <;> simp [sp_cons,sp_app,sp_nil,tw,tg,w_if,elsT,elsX,blk,w_else]
theorem stx_loop (k:Int)(n:List UInt8)(b:Sts):sp (toksS (.loop k n b))=[108,111,111,112,32] ++(decL k ++ [32]) ++n ++ [32] ++blk b:=by
 rw [toksS];simp [sp_cons,sp_app,sp_nil,tw,tg,tn,w_loop,blk]
theorem stx_each (n t:List UInt8)(lo hi:Ex)(k:Int)(b:Sts):sp (toksS (.each n t lo hi k b))=[101,97,99,104,32] ++n ++ [32,105,110,32] ++t ++ [32,102,114,111,109,32] ++sp (toks0 lo) ++ [116,111,32] ++sp (toks0 hi) ++ [109,97,120,32] ++(decL k ++ [32]) ++blk b:=by
 rw [toksS];simp [sp_cons,sp_app,sp_nil,tw,tg,tn,w_each,w_in,w_from,w_to,w_max,blk]
theorem RPB.run {b:Sts}(h:RPB b)(ok:okB b)(hlen:(blk b).length≤100000000){A:Option Addr}{c:Nat}{S:Nat→Prop}{w:World}(hR:RS w S A c b)(hS: ∀k,S k→k < w.heap.size):RunE 36 #[.slice A b.len c] (blk b) w:=
 fun w' hb=> h ok (by rw [blk_len]at hlen;exact hlen) A c S w' (hR.keep fun k hk=> hb.block k (hS k hk)) fun k hk=> Nat.lt_of_lt_of_le (hS k hk) hb.size
theorem rpb_step (b:Sts)(ih: ∀x ∈ b.list,RPB (stB x)∧RPB (stE x)):RPB b:=by
 intro ok hlen A c S w h hS
 have hcap:=h.cap
 obtain ⟨n,hn⟩: ∃n,b.len=n:=⟨_,rfl⟩
 have HN:Hid (b.list.length=n):=Lib.hid (by rw [Sts.list_len];exact hn)
 rw [hn]at hcap⊢
 clear hn
 have HL:Hid ((sp (toksL b.list)).length+4≤100000000):=Lib.hid (by rw [toksB_list]at hlen;exact hlen)
 have HIH:=Lib.hid ih
 have HOK:=Lib.hid (okB_list ok)
 have H1:=Lib.hid h
 have HS:=Lib.hid hS
 rw [toksB_list]
 clear ih ok hlen h hS
 show Calls _ _ _ _ fun e w'=> e= .returned (sv ([123,32] ++sp (toksL b.list) ++ [125,32]))∧_
 go_enter Tryz.func36,Tryz.ntmps36
 go_wp2_with fail
 go_loopw [3,10] (fun s i wr=> ∃k:Nat,k≤n∧i= .int .i64 k∧s=sv ([123,32] ++sp (toksL (b.list.take k)))∧Hid (Below w.heap.size w wr)) (fun _ i _=> n - (intOf i).toNat)
 case atStart=> exact ⟨0,Nat.zero_le _,rfl,rfl,Lib.hid (Below.refl _ _)⟩
 case round=>
  obtain ⟨k,hk,rfl,rfl,HB⟩:=hrel
  have hz:=HB.out.size
  have hFl:=Nat.le_trans (Nat.add_le_add_right (toksL_len b.list k) 4) HL.out
  by_cases hlt:k < n
  ·have hlk:k < b.list.length:=by rw [HN.out];exact hlt
   have hki:(k:Int) < (n:Int):=by omega
   obtain ⟨b1,off,A1,c1,B1,d1,E1,f1,p1,q1,r1,⟨rfl,hb1⟩,hc1,ga,gb,ge⟩:=(H1.out.keep (w':=wr) fun b hB=> HB.out.block b (HS.out b hB)).at_ HS.out hlk
   have hsn:=toksL_step hlk
   have hle:=Nat.le_trans (Nat.add_le_add_right (toksL_len b.list (k+1)) 4) HL.out
   rw [hsn,List.length_append]at hle
   have HSN:=Lib.hid hsn
   have hih:=Lib.hid (HIH.out _ (List.getElem_mem hlk))
   have hok:=Lib.hid (HOK.out _ (List.getElem_mem hlk))
   have GA:=Lib.hid ga
   have GB:=Lib.hid gb
   have GE:=Lib.hid ge
   have hL1:=stA_len b.list[k]
   clear hsn ga gb ge
   generalize b.list[k]=x at *
   obtain ⟨F,hF⟩: ∃F,[123,32] ++sp (toksL (b.list.take k))=F:=⟨_,rfl⟩
   have hFl2:F.length+(sp (toksS x)).length≤100000000:=by rw [← hF];simp;omega
   have HF:=Lib.hid hF
   rw [hF]
   clear hF hFl hle
   have hbw1:b1 < wr.heap.size:=by omega
   unfold stV at hc1
   have y0:wr.cell? ⟨b1,off+k * 11,none⟩=some (nv (stK x)):=hc1 0 (by omega)
   have y1:wr.cell? ⟨b1,off+k * 11+1,none⟩=some (sv (stN x)):=hc1 1 (by omega)
   have y2:wr.cell? ⟨b1,off+k * 11+2,none⟩=some (sv (stT x)):=hc1 2 (by omega)
   have y3:wr.cell? ⟨b1,off+k * 11+3,none⟩=some (sv (stC x)):=hc1 3 (by omega)
   have y4:wr.cell? ⟨b1,off+k * 11+4,none⟩=some (nv (stI x)):=hc1 4 (by omega)
   have y5:wr.cell? ⟨b1,off+k * 11+5,none⟩=some (.slice A1 (stA x).length c1):=hc1 5 (by omega)
   have y6:wr.cell? ⟨b1,off+k * 11+6,none⟩=some (.slice B1 (stB x).len d1):=hc1 6 (by omega)
   have y7:wr.cell? ⟨b1,off+k * 11+7,none⟩=some (.slice E1 (stE x).len f1):=hc1 7 (by omega)
   have y8:wr.cell? ⟨b1,off+k * 11+8,none⟩=some (nv p1):=hc1 8 (by omega)
   have y9:wr.cell? ⟨b1,off+k * 11+9,none⟩=some (nv q1):=hc1 9 (by omega)
   have y10:wr.cell? ⟨b1,off+k * 11+10,none⟩=some (nv r1):=hc1 10 (by omega)
   clear hc1
   go_upto_region 5 with fail
   have BX:Hid ((wr.alloc (stO x (.slice A1 (stA x).length c1) (.slice B1 (stB x).len d1) (.slice E1 (stE x).len f1) p1 q1 r1)).heap[wr.heap.size]? =some (stO x (.slice A1 (stA x).length c1) (.slice B1 (stB x).len d1) (.slice E1 (stE x).len f1) p1 q1 r1)):=Lib.hid (alloc_at rfl)
   have FW:Hid (Below wr.heap.size wr (wr.alloc (stO x (.slice A1 (stA x).length c1) (.slice B1 (stB x).len d1) (.slice E1 (stE x).len f1) p1 q1 r1))):=Lib.hid one_new
   obtain ⟨w1,hw1⟩: ∃W,wr.alloc (stO x (.slice A1 (stA x).length c1) (.slice B1 (stB x).len d1) (.slice E1 (stE x).len f1) p1 q1 r1)=W:=⟨_,rfl⟩
   rw [hw1]at BX FW⊢
   clear hw1 y0 y1 y2 y3 y4 y5 y6 y7 y8 y9 y10
   obtain ⟨⟨⟨⟨x0,x1⟩,x2,x3⟩,⟨x4,x5⟩,x6,x7⟩,⟨x8,x9⟩,x10⟩:=cells11 BX.out
   have hP (i:Nat):=aTx_len x i
   have HS1:Hid (∀b,S b→b < wr.heap.size):=Lib.hid fun b hb=> Nat.lt_of_lt_of_le (HS.out b hb) hz
   go_wp2_with fail
   refine (part_print (stA x) 0 rfl (stA_ok hok.out) (by have:=hP 0;omega) A1 c1 S w1 (GA.out.keep fun b hb=> FW.out.block b (HS1.out b hb)) (fun b hb=> Nat.lt_of_lt_of_le (HS1.out b hb) FW.out.size) hL1).mono ?_
   rintro e w2 ⟨⟨V,rfl,hV⟩,b2⟩
   have HV:=Lib.hid hV
   clear hV
   replace BX:=Lib.hid (box_next BX.out b2)
   replace FW:=Lib.hid (bthen FW.out b2)
   clear b2 x0 x1 x2 x3 x4 x5 x6 x7 x8 x9 x10
   obtain ⟨⟨⟨⟨x0,x1⟩,x2,x3⟩,⟨x4,x5⟩,x6,x7⟩,⟨x8,x9⟩,x10⟩:=cells11 BX.out
   go_wp2_with fail
   refine (HV.out w2 (Below.refl _ _)).mono ?_
   rintro e w3 ⟨rfl,b3⟩
   clear HV
   replace BX:=Lib.hid (box_next BX.out b3)
   replace FW:=Lib.hid (bthen FW.out b3)
   clear b3 x0 x1 x2 x3 x4 x5 x6 x7 x8 x9 x10
   obtain ⟨⟨⟨⟨x0,x1⟩,x2,x3⟩,⟨x4,x5⟩,x6,x7⟩,⟨x8,x9⟩,x10⟩:=cells11 BX.out
   go_wp2_with fail
   refine (part_print (stA x) 1 rfl (stA_ok hok.out) (by have:=hP 1;omega) A1 c1 S w3 (GA.out.keep fun b hb=> FW.out.block b (HS1.out b hb)) (fun b hb=> Nat.lt_of_lt_of_le (HS1.out b hb) FW.out.size) hL1).mono ?_
   rintro e w4 ⟨⟨V,rfl,hV⟩,b4⟩
   have HV:=Lib.hid hV
   clear hV
   replace BX:=Lib.hid (box_next BX.out b4)
   replace FW:=Lib.hid (bthen FW.out b4)
   clear b4 x0 x1 x2 x3 x4 x5 x6 x7 x8 x9 x10
   obtain ⟨⟨⟨⟨x0,x1⟩,x2,x3⟩,⟨x4,x5⟩,x6,x7⟩,⟨x8,x9⟩,x10⟩:=cells11 BX.out
   go_wp2_with fail
   refine (HV.out w4 (Below.refl _ _)).mono ?_
   rintro e w5 ⟨rfl,b5⟩
   clear HV
   replace BX:=Lib.hid (box_next BX.out b5)
   replace FW:=Lib.hid (bthen FW.out b5)
   clear b5 x0 x1 x2 x3 x4 x5 x6 x7 x8 x9 x10
   obtain ⟨⟨⟨⟨x0,x1⟩,x2,x3⟩,⟨x4,x5⟩,x6,x7⟩,⟨x8,x9⟩,x10⟩:=cells11 BX.out
   clear hP
   cases x
   case let_ nn ee=>
    have hx:=stx_let nn ee
    rw [hx]at hFl2
    simp only [List.length_append,List.length_cons,List.length_nil]at hFl2
    have HX:=Lib.hid (HSN.out.trans (congrArg _ hx))
    clear hx HSN
    simp only [stO,stK,stN,stT,stC,stI,stA,stB,stE,aTx_0,aTx_1,aTx_10,aTx_nil]at *
    generalize sp (toks0 ee)=P at *
    go_wp2_with (refine wpList_cat rfl rfl rfl rfl (by simp;omega) ?_)
    go_roundw
    case rel=>
     refine ⟨k+1,by omega,by go_num,?_,Lib.hid (bthen HB.out FW.out)⟩
     rw [HX.out]
     refine congrArg (fun z=> sv z) ?_
     rw [← List.append_assoc,← HF.out]
     first | done | simp
    case measure=> simp [intOf];omega
   case set nn ee=>
    have hx:=stx_set nn ee
    rw [hx]at hFl2
    simp only [List.length_append,List.length_cons,List.length_nil]at hFl2
    have HX:=Lib.hid (HSN.out.trans (congrArg _ hx))
    clear hx HSN
    simp only [stO,stK,stN,stT,stC,stI,stA,stB,stE,aTx_0,aTx_1,aTx_10,aTx_nil]at *
    generalize sp (toks0 ee)=P at *
    go_wp2_with (refine wpList_cat rfl rfl rfl rfl (by simp;omega) ?_)
    go_roundw
    case rel=>
     refine ⟨k+1,by omega,by go_num,?_,Lib.hid (bthen HB.out FW.out)⟩
     rw [HX.out]
     refine congrArg (fun z=> sv z) ?_
     rw [← List.append_assoc,← HF.out]
     first | done | simp
    case measure=> simp [intOf];omega
   case put tt cc kk ee=>
    have hx:=stx_put tt cc kk ee
    rw [hx]at hFl2
    simp only [List.length_append,List.length_cons,List.length_nil]at hFl2
    have HX:=Lib.hid (HSN.out.trans (congrArg _ hx))
    clear hx HSN
    simp only [stO,stK,stN,stT,stC,stI,stA,stB,stE,aTx_0,aTx_1,aTx_10,aTx_nil]at *
    generalize sp (toks0 kk)=P at *
    generalize sp (toks0 ee)=P2 at *
    go_wp2_with (refine wpList_cat rfl rfl rfl rfl (by simp;omega) ?_)
    go_roundw
    case rel=>
     refine ⟨k+1,by omega,by go_num,?_,Lib.hid (bthen HB.out FW.out)⟩
     rw [HX.out]
     refine congrArg (fun z=> sv z) ?_
     rw [← List.append_assoc,← HF.out]
     first | done | simp
    case measure=> simp [intOf];omega
   case del tt kk=>
    have hx:=stx_del tt kk
    rw [hx]at hFl2
    simp only [List.length_append,List.length_cons,List.length_nil]at hFl2
    have HX:=Lib.hid (HSN.out.trans (congrArg _ hx))
    clear hx HSN
    simp only [stO,stK,stN,stT,stC,stI,stA,stB,stE,aTx_0,aTx_1,aTx_10,aTx_nil]at *
    generalize sp (toks0 kk)=P at *
    go_wp2_with (refine wpList_cat rfl rfl rfl rfl (by simp;omega) ?_)
    go_roundw
    case rel=>
     refine ⟨k+1,by omega,by go_num,?_,Lib.hid (bthen HB.out FW.out)⟩
     rw [HX.out]
     refine congrArg (fun z=> sv z) ?_
     rw [← List.append_assoc,← HF.out]
     first | done | simp
    case measure=> simp [intOf];omega
   case roll=>
    have hx:=stx_roll
    rw [hx]at hFl2
    simp only [List.length_append,List.length_cons,List.length_nil]at hFl2
    have HX:=Lib.hid (HSN.out.trans (congrArg _ hx))
    clear hx HSN
    simp only [stO,stK,stN,stT,stC,stI,stA,stB,stE,aTx_0,aTx_1,aTx_10,aTx_nil]at *
    go_wp2_with (refine wpList_cat rfl rfl rfl rfl (by simp;omega) ?_)
    go_roundw
    case rel=>
     refine ⟨k+1,by omega,by go_num,?_,Lib.hid (bthen HB.out FW.out)⟩
     rw [HX.out]
     refine congrArg (fun z=> sv z) ?_
     rw [← List.append_assoc,← HF.out]
     first | done | simp
    case measure=> simp [intOf];omega
   case emit ee=>
    have hx:=stx_emit ee
    rw [hx]at hFl2
    simp only [List.length_append,List.length_cons,List.length_nil]at hFl2
    have HX:=Lib.hid (HSN.out.trans (congrArg _ hx))
    clear hx HSN
    simp only [stO,stK,stN,stT,stC,stI,stA,stB,stE,aTx_0,aTx_1,aTx_10,aTx_nil]at *
    generalize sp (toks0 ee)=P at *
    go_wp2_with (refine wpList_cat rfl rfl rfl rfl (by simp;omega) ?_)
    go_roundw
    case rel=>
     refine ⟨k+1,by omega,by go_num,?_,Lib.hid (bthen HB.out FW.out)⟩
     rw [HX.out]
     refine congrArg (fun z=> sv z) ?_
     rw [← List.append_assoc,← HF.out]
     first | done | simp
    case measure=> simp [intOf];omega
   case if_ ee bb els=>
    have hx:=stx_if ee bb els
    rw [hx]at hFl2
    simp only [List.length_append,List.length_cons,List.length_nil]at hFl2
    have HX:=Lib.hid (HSN.out.trans (congrArg _ hx))
    clear hx HSN
    simp only [stO,stK,stN,stT,stC,stI,stA,stB,stE,aTx_0,aTx_1,aTx_10,aTx_nil]at *
    have ho:=hok.out
    rw [okS]at ho
    have hez:=elsX_len els
    have hbz:=blk_len els
    have hbz1:=blk_len bb
    have C1:=Lib.hid (hih.out.1.run ho.2.1.1 (by omega) GB.out HS1.out)
    have C2:=Lib.hid (hih.out.2.run ho.2.2.1 (by omega) GE.out HS1.out)
    have EP:=Lib.hid (elsX_pos (b:=els))
    have EZ:=Lib.hid (elsX_zero (b:=els))
    clear ho hez hbz hbz1 hih hok GA GB GE
    generalize sp (toks0 ee)=P at *
    generalize blk bb=Q at *
    generalize blk els=Q2 at *
    generalize elsX els=Q3 at *
    generalize bb.len=mb at *
    generalize els.len=me at *
    rcases Nat.eq_zero_or_pos me with hm | hm
    ·have q3:=EZ.out hm
     subst hm q3
     clear EP EZ
     go_wp2_with (refine wpList_cat rfl rfl rfl rfl (by simp;omega) ?_)
     refine (C1.out w5 FW.out).mono ?_
     rintro e w6 ⟨rfl,b6⟩
     replace BX:=Lib.hid (box_next BX.out b6)
     replace FW:=Lib.hid (bthen FW.out b6)
     clear b6 x0 x1 x2 x3 x4 x5 x6 x7 x8 x9 x10
     obtain ⟨⟨⟨⟨x0,x1⟩,x2,x3⟩,⟨x4,x5⟩,x6,x7⟩,⟨x8,x9⟩,x10⟩:=cells11 BX.out
     go_wp2_with (refine wpList_cat rfl rfl rfl rfl (by simp;omega) ?_)
     go_roundw
     case rel=>
      refine ⟨k+1,by omega,by go_num,?_,Lib.hid (bthen HB.out FW.out)⟩
      rw [HX.out]
      refine congrArg (fun z=> sv z) ?_
      rw [← List.append_assoc,← HF.out]
      first | done | simp
     case measure=> simp [intOf];omega
    ·have hmi:(0:Int) < (me:Int):=by omega
     have q3:=EP.out hm
     clear EP EZ hm
     subst q3
     simp only [List.length_append,List.length_cons,List.length_nil]at hFl2
     go_wp2_with (refine wpList_cat rfl rfl rfl rfl (by simp;omega) ?_)
     refine (C1.out w5 FW.out).mono ?_
     rintro e w6 ⟨rfl,b6⟩
     replace BX:=Lib.hid (box_next BX.out b6)
     replace FW:=Lib.hid (bthen FW.out b6)
     clear b6 x0 x1 x2 x3 x4 x5 x6 x7 x8 x9 x10
     obtain ⟨⟨⟨⟨x0,x1⟩,x2,x3⟩,⟨x4,x5⟩,x6,x7⟩,⟨x8,x9⟩,x10⟩:=cells11 BX.out
     go_wp2_with (refine wpList_cat rfl rfl rfl rfl (by simp;omega) ?_)
     refine (C2.out w6 FW.out).mono ?_
     rintro e w7 ⟨rfl,b7⟩
     replace BX:=Lib.hid (box_next BX.out b7)
     replace FW:=Lib.hid (bthen FW.out b7)
     clear b7 x0 x1 x2 x3 x4 x5 x6 x7 x8 x9 x10
     obtain ⟨⟨⟨⟨x0,x1⟩,x2,x3⟩,⟨x4,x5⟩,x6,x7⟩,⟨x8,x9⟩,x10⟩:=cells11 BX.out
     go_wp2_with (refine wpList_cat rfl rfl rfl rfl (by simp;omega) ?_)
     go_roundw
     case rel=>
      refine ⟨k+1,by omega,by go_num,?_,Lib.hid (bthen HB.out FW.out)⟩
      rw [HX.out]
      refine congrArg (fun z=> sv z) ?_
      rw [← List.append_assoc,← HF.out]
      first | done | simp
     case measure=> simp [intOf];omega
   case loop nn name bb=>
    have hx:=stx_loop nn name bb
    rw [hx]at hFl2
    simp only [List.length_append,List.length_cons,List.length_nil]at hFl2
    have HX:=Lib.hid (HSN.out.trans (congrArg _ hx))
    clear hx HSN
    simp only [stO,stK,stN,stT,stC,stI,stA,stB,stE,aTx_0,aTx_1,aTx_10,aTx_nil]at *
    have ho:=hok.out
    rw [okS]at ho
    have hnb:-9223372036854775808≤nn∧nn≤9223372036854775807:=by have h:=ho.1;unfold okNum at h;omega
    have RN:Hid (∀w:World,Calls Tryz.prog 34 #[nv nn] w fun e w'=> e= .returned (sv (decL nn ++ [32]))∧Below w.heap.size w w'):=Lib.hid fun w=> rnum_any nn w hnb.1 hnb.2
    have hdl:(decL nn ++ [32]).length≤100000000:=by simp only [List.length_append,List.length_cons,List.length_nil];omega
    have hnl:name.length≤100000000:=by omega
    have hFl3:F.length≤100000000:=by omega
    have hql:(blk bb).length≤100000000:=by omega
    have C1:=Lib.hid (hih.out.1.run (by first | exact ho.2.1 | exact ho.2.2.1 | exact ho.2.2.2.1 | exact ho.2.2.2.2.1) (by omega) GB.out HS1.out)
    clear hnb hih hok GA GB GE
    generalize decL nn ++ [32]=D at *
    generalize blk bb=Q at *
    generalize bb.len=mb at *
    go_wp2_with fail
    have BD:Below w5.heap.size w5 w5.drew:=(Below.refl _ _).drew
    refine wp_region_sched [(0,true),(1,true),(2,true),(5,true),(6,true),(9,true),(10,true),(3,false),(4,true),(7,true),(8,true),(11,false),(12,true),(13,true),(14,true)] (by kernel_rfl) (by kernel_rfl) (fun _ _ d _ _ h=> by cases d <;> exact h) ?_
    refine swith (fun W hW=> (cells11 (box_next BX.out ((Below.refl _ _).drew.trans hW.out)))) (fun qx=> ?_)
    repeat (first | (refine srE ?_;simp only [Act.put,sA,sB,sC]) | (refine skE ?_;simp only [Act.put,sA,sB,sC]))
    refine scall rfl rfl (fun K hK=> ?_)
    go_simp
    refine (RN.out _).mono ?_;rintro e w6 ⟨rfl,b6⟩
    go_wp2_with fail
    refine hK.out _ _ (by exact b6) ?_
    clear hK K
    try simp only [Act.put,sA,sB,sC]
    replace qx:=fun (W:World) (hW:Grow w6 W)=> qx W (Grow.trans (b6) hW)
    have B6:=bthen BD b6
    repeat (first | (refine srE ?_;simp only [Act.put,sA,sB,sC]) | (refine skE ?_;simp only [Act.put,sA,sB,sC]))
    refine scall rfl rfl (fun K hK=> ?_)
    go_simp
    refine (C1.out _ (bthen FW.out B6)).mono ?_;rintro e w7 ⟨rfl,b7⟩
    go_wp2_with fail
    refine hK.out _ _ (by exact b7) ?_
    clear hK K
    try simp only [Act.put,sA,sB,sC]
    replace qx:=fun (W:World) (hW:Grow w7 W)=> qx W (Grow.trans (b7) hW)
    have B7:=bthen B6 b7
    repeat (first | (refine srE ?_;simp only [Act.put,sA,sB,sC]) | (refine skE ?_;simp only [Act.put,sA,sB,sC]))
    refine sdone ?_
    go_wp2_with fail
    go_roundw
    case rel=>
     refine ⟨k+1,by omega,by go_num,?_,Lib.hid (bthen HB.out (bthen FW.out B7))⟩
     rw [HX.out,← List.append_assoc,HF.out]
     refine congrArg Value.string ?_
     simp only [ba_append]
     first | done | rfl | simp
    case measure=> simp [intOf];omega
   case each nn tt lo hi kk bb=>
    have hx:=stx_each nn tt lo hi kk bb
    rw [hx]at hFl2
    simp only [List.length_append,List.length_cons,List.length_nil]at hFl2
    have HX:=Lib.hid (HSN.out.trans (congrArg _ hx))
    clear hx HSN
    simp only [stO,stK,stN,stT,stC,stI,stA,stB,stE,aTx_0,aTx_1,aTx_10,aTx_nil]at *
    have ho:=hok.out
    rw [okS]at ho
    have hnb:-9223372036854775808≤kk∧kk≤9223372036854775807:=by have h:=ho.2.2.1;unfold okNum at h;omega
    have RN:Hid (∀w:World,Calls Tryz.prog 34 #[nv kk] w fun e w'=> e= .returned (sv (decL kk ++ [32]))∧Below w.heap.size w w'):=Lib.hid fun w=> rnum_any kk w hnb.1 hnb.2
    have hdl:(decL kk ++ [32]).length≤100000000:=by simp only [List.length_append,List.length_cons,List.length_nil];omega
    have hnl:nn.length≤100000000:=by omega
    have htl:tt.length≤100000000:=by omega
    have hFl3:F.length≤100000000:=by omega
    have hql:(blk bb).length≤100000000:=by omega
    have hal:(sp (toks0 lo)).length≤100000000:=by omega
    have hbl:(sp (toks0 hi)).length≤100000000:=by omega
    have C1:=Lib.hid (hih.out.1.run ho.2.2.2.1 (by omega) GB.out HS1.out)
    clear hnb hih hok GA GB GE
    generalize decL kk ++ [32]=D at *
    generalize blk bb=Q at *
    generalize bb.len=mb at *
    generalize sp (toks0 lo)=P at *
    generalize sp (toks0 hi)=P2 at *
    go_wp2_with fail
    have BD:Below w5.heap.size w5 w5.drew:=(Below.refl _ _).drew
    refine wp_region_sched [(0,true),(1,true),(2,true),(3,true),(4,true),(5,true),(6,true),(7,true),(8,true),(9,true),(10,true),(11,true),(12,true),(13,true),(14,true),(15,true),(16,true),(19,true),(20,true),(17,false),(18,true),(21,false),(22,true),(23,true),(24,true)] (by kernel_rfl) (by kernel_rfl) (fun _ _ d _ _ h=> by cases d <;> exact h) ?_
    refine swith (fun W hW=> (cells11 (box_next BX.out ((Below.refl _ _).drew.trans hW.out)))) (fun qx=> ?_)
    repeat (first | (refine srE ?_;simp only [Act.put,sA,sB,sC]) | (refine skE ?_;simp only [Act.put,sA,sB,sC]))
    refine scall rfl rfl (fun K hK=> ?_)
    go_simp
    refine (RN.out _).mono ?_;rintro e w6 ⟨rfl,b6⟩
    go_wp2_with fail
    refine hK.out _ _ (by exact b6) ?_
    clear hK K
    try simp only [Act.put,sA,sB,sC]
    replace qx:=fun (W:World) (hW:Grow w6 W)=> qx W (Grow.trans (b6) hW)
    have B6:=bthen BD b6
    repeat (first | (refine srE ?_;simp only [Act.put,sA,sB,sC]) | (refine skE ?_;simp only [Act.put,sA,sB,sC]))
    refine scall rfl rfl (fun K hK=> ?_)
    go_simp
    refine (C1.out _ (bthen FW.out B6)).mono ?_;rintro e w7 ⟨rfl,b7⟩
    go_wp2_with fail
    refine hK.out _ _ (by exact b7) ?_
    clear hK K
    try simp only [Act.put,sA,sB,sC]
    replace qx:=fun (W:World) (hW:Grow w7 W)=> qx W (Grow.trans (b7) hW)
    have B7:=bthen B6 b7
    repeat (first | (refine srE ?_;simp only [Act.put,sA,sB,sC]) | (refine skE ?_;simp only [Act.put,sA,sB,sC]))
    refine sdone ?_
    go_wp2_with fail
    go_roundw
    case rel=>
     refine ⟨k+1,by omega,by go_num,?_,Lib.hid (bthen HB.out (bthen FW.out B7))⟩
     rw [HX.out,← List.append_assoc,HF.out]
     refine congrArg Value.string ?_
     simp only [ba_append]
     first | done | rfl | simp
    case measure=> simp [intOf];omega
  ·have hkn:k=n:=by omega
   have e:b.list.take k=b.list:=by rw [List.take_of_length_le (by rw [HN.out];omega)]
   rw [e]
   have hki: ¬(k:Int) < (n:Int):=by omega
   have hT:=HL.out
   obtain ⟨F,hF⟩: ∃F,[123,32] ++sp (toksL b.list)=F:=⟨_,rfl⟩
   rw [hF]
   have hFl:F.length≤100000000:=by rw [← hF];simp;omega
   have HF:=Lib.hid hF
   clear hF hT
   go_wp2_with (refine wpList_cat rfl rfl rfl rfl (by simp;omega) ?_)
   go_ret
   refine ⟨?_,HB.out⟩
   show Ending.returned (sv (F ++ [125,32]))=_
   rw [← HF.out]
   first | done | simp
theorem rpb_any: ∀b:Sts,RPB b:=
 fun b=> (Sts.indM (P:=fun s=> RPB (stB s)∧RPB (stE s)) (Q:=fun b=> RPB b∧∀x ∈ b.list,RPB (stB x)∧RPB (stE x)) (fun s h1 h2=> ⟨h1.1,h2.1⟩)
  ⟨rpb_step .nil (fun x hx=> by cases hx),fun x hx=> by cases hx⟩
  (fun s r hs hr=> by
   have: ∀x ∈ (Sts.cons s r).list,RPB (stB x)∧RPB (stE x):=fun x hx=> by
    rw [Sts.list]at hx
    rcases List.mem_cons.1 hx with rfl | hx
    ·exact hs
    ·exact hr.2 x hx
   exact ⟨rpb_step _ this,this⟩) b).1
end Go.Proofs.YtnbmpfdffoidaaaGreatDoor.Y
