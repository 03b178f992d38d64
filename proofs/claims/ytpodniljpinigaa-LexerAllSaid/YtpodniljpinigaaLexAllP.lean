/- Plain laws of tokL and lexS; rows of tokens in memory. -/
import Derived.Test.YtpodniljpinigaaLexTok
import Derived.Test.YtpodniljpinigaaReps
import Derived.Test.YtpodniljpinigaaLaws2
namespace Go.Proofs.Ytpodniljpinigaa.X
open Go.RowKit O V S

theorem tokL_pos (t : List UInt8) (h : (tokL t).e = 0) : 0 < (tokL t).n ∧ (tokL t).n ≤ t.length := by
  match t with
  | [] => simp [tokL] at h
  | c :: r =>
    rw [tokL_cons] at h ⊢
    split
    · rename_i hs
      rw [if_pos hs] at h
      split
      · rename_i hb; rw [if_pos hb] at h; simp at h
      · have hw : wordC c = true := by simp [wordC, hs]
        refine ⟨?_, runLen_le wordC (c :: r)⟩
        simp only [runLen, hw, if_true]; omega
    · rename_i hs
      rw [if_neg hs] at h
      split
      · rename_i hd
        rw [if_pos hd] at h
        split
        · refine ⟨?_, runLen_le digitC (c :: r)⟩
          simp only [runLen, hd, if_true]; omega
        · rename_i hb; rw [if_neg hb] at h; simp at h
      · rename_i hd
        rw [if_neg hd] at h
        split
        · rename_i hq
          rw [if_pos hq] at h
          cases hQ : quoS ((c :: r).drop 1) 1 ⟨0, [], none⟩ with
          | none => unfold quoL at h; rw [hQ] at h; simp at h
          | some Q =>
            cases hb : Q.bad with
            | some k => rw [quoL_bad hQ hb] at h; simp at h
            | none =>
              have h1 := quoL_ok hQ hb
              have h2 := (qs_lt _ _ (Nat.le_refl _) _ _ _ hQ).2.1
              simp at h2
              rw [h1] at h ⊢
              split
              · rename_i hbig; rw [if_pos hbig] at h; simp at h
              · simp; omega
        · rename_i hq
          rw [if_neg hq] at h
          split
          · rename_i h0; rw [if_pos h0] at h; simp at h
          · rename_i h0
            exact ⟨by show 0 < signL (c :: r); omega, sign_le (c :: r) (by simp)⟩
theorem tokE : Elem Try.prog 35 45 8 80 (.agg #[.int .i64 0, .string ByteArray.empty, .int .i64 0, .int .i64 0, .string ByteArray.empty, .int .i64 0, .int .i64 0, .int .i64 0]) := by
  obtain ⟨i, hi, h1, h2, h3⟩ := info_parts (show (Try.prog.info? 45).map (fun i => (i.zero, i.size, i.bytes)) = some (some (.agg #[.int .i64 0, .string ByteArray.empty, .int .i64 0, .int .i64 0, .string ByteArray.empty, .int .i64 0, .int .i64 0, .int .i64 0]), 8, 80) by kernel_rfl)
  exact ⟨Try.underlying35, i, hi, h1, h2, h3, rfl, by omega⟩
/-- The cells of a token of the text s. -/
def TkC (s : List UInt8) (t : Tk) (vs : List Value) : Prop := vs = tkCells t.k t.text t.v s t.i
theorem TkC.size {s : List UInt8} (t : Tk) (vs : List Value) (h : TkC s t vs) : vs.length = 8 := by rw [h]; rfl
end Go.Proofs.Ytpodniljpinigaa.X
