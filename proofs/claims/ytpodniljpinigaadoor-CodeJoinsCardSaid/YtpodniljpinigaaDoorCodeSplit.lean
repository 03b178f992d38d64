/- strings.Split at one octet; strings.Builder's WriteString. -/
import Derived.Test.YtpodniljpinigaaDoorShelfSplit
import Derived.Test.YtpodniljpinigaaDoorCodeCut
import Derived.Test.YtpodniljpinigaaDoorCodePlain3
import Derived.Lib.IndexBytes
namespace Go.Proofs.YtpodniljpinigaaDoor.C
open Go.RowKit O V

def piecesL (c : UInt8) (s : List UInt8) : List (List UInt8) := (cutL c s).1 ++ [(cutL c s).2]
theorem idxB_one (x : ByteArray) (c : UInt8) : Lib.indexB x ⟨#[c]⟩ = Lib.indexByte x.data.toList c := Lib.index_one _ _
theorem cntB_one (x : ByteArray) (c : UInt8) : Lib.countB x ⟨#[c]⟩ = x.data.toList.count c := Lib.count_one _ _
theorem pieces_len (c : UInt8) (s : List UInt8) : (piecesL c s).length = s.count c + 1 := by
  have h := split_cutL c s
  have h2 := Lib.splitB_all ⟨#[c]⟩ (Nat.le_refl 1) 0 _ ⟨s.toArray⟩ rfl
  rw [cntB_one] at h2
  have h3 := Lib.splitB_data ⟨#[c]⟩ 0 (s.count c) ⟨s.toArray⟩
  unfold piecesL
  rw [← h, Lib.split, Lib.count_one]
  have h4 := congrArg List.length h3
  rw [List.length_map, h2] at h4
  exact h4.symm
theorem pieces_bytes (c : UInt8) (s : List UInt8) : (Lib.splitB ⟨#[c]⟩ 0 (s.count c) ⟨s.toArray⟩).map Value.string = (piecesL c s).map strV := by
  have h3 := Lib.splitB_data ⟨#[c]⟩ 0 (s.count c) ⟨s.toArray⟩
  have h := split_cutL c s
  unfold piecesL
  rw [← h, Lib.split, Lib.count_one]
  have h4 : Lib.splitK [c] 0 (s.count c) s = (Lib.splitB ⟨#[c]⟩ 0 (s.count c) ⟨s.toArray⟩).map (·.data.toList) := h3.symm
  rw [h4, List.map_map]
  exact List.map_congr_left fun x _ => rfl
set_option maxRecDepth 100000 in
theorem gsplit_any (s : List UInt8) (c : UInt8) (w : World) (hs : s.length ≤ 1000000) : Calls Tryd.prog 39 #[.string ⟨s.toArray⟩, .string ⟨#[c]⟩, .int .i64 0, .int .i64 (-1)] w fun e w' => e = .returned (.slice (some ⟨w.heap.size, 0, none⟩) (s.count c + 1) (s.count c + 1)) ∧ w' = w.alloc (.cells ((piecesL c s).map strV).toArray 9) := by
  have hsz : (ByteArray.mk s.toArray).size = s.length := by simp [ByteArray.size]
  have hcl : s.count c ≤ s.length := List.count_le_length
  have h := Any.strings_genSplit_core (P := Tryd.prog) Tryd.lays221 (by kernel_rfl) ⟨s.toArray⟩ ⟨#[c]⟩ 0 (-1) (s.count c + 1) w (by omega) (Nat.le_refl 1) (Nat.zero_le _)
    (fun x cs hx => by rw [idxB_one]; exact Tryd.strings_Index_one x c _)
    (by rw [cntB_one]; exact Tryd.strings_Count_one ⟨s.toArray⟩ c w) (by decide) (by decide) (by rw [if_pos (by decide), cntB_one, hsz]; show ((s.count c + 1 : Nat) : Int) = min ((s.count c : Int) + 1) ((s.length : Int) + 1); omega)
  rw [Nat.add_sub_cancel] at h
  have hl := Lib.splitB_all ⟨#[c]⟩ (Nat.le_refl 1) 0 _ ⟨s.toArray⟩ rfl
  rw [cntB_one] at hl
  have hl' : (Lib.splitB ⟨#[c]⟩ 0 (s.count c) ⟨s.toArray⟩).length = s.count c + 1 := hl
  rw [hl'] at h
  have hc : Lib.cellsOf (Lib.splitB ⟨#[c]⟩ 0 (s.count c) ⟨s.toArray⟩) (s.count c + 1) = ((piecesL c s).map strV).toArray := by
    have := Lib.cellsOf_full (Lib.splitB ⟨#[c]⟩ 0 (s.count c) ⟨s.toArray⟩)
    rw [hl'] at this
    rw [this, pieces_bytes]
  rw [hc] at h
  exact h
set_option maxRecDepth 100000 in
theorem ssplit_any (s : List UInt8) (c : UInt8) (w : World) (hs : s.length ≤ 1000000) : Calls Tryd.prog 20 #[.string ⟨s.toArray⟩, .string ⟨#[c]⟩] w fun e w' => e = .returned (.slice (some ⟨w.heap.size, 0, none⟩) (s.count c + 1) (s.count c + 1)) ∧ w' = w.alloc (.cells ((piecesL c s).map strV).toArray 9) := by
  go_enter Tryd.func20, Tryd.ntmps20
  go_wp2_with fail
  refine (gsplit_any s c _ hs).mono ?_; rintro e w1 ⟨rfl, rfl⟩
  go_wp2_with fail
  go_ret
  exact ⟨rfl, rfl⟩
end Go.Proofs.YtpodniljpinigaaDoor.C
