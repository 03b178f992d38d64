/- More laws of my own: '[]byte(s)' with its capacity's bound. -/
import Derived.Test.YtpkoijlbbfffiaaLaws
namespace Go.Proofs.Ytpkoijlbbfffiaa
open Go.RowKit Go.Lib
section
variable {P : Program}
/-- '[]byte(s)', with a bound of its room. -/
theorem wpList_bytesC {w : World} {ops : Array Oper} {rest : List Oper} {o : Oper} {a : Act} {Q : Exit → Act → World → Prop} (hgd : o.guard = none) {src dst e : TypeId} (x : Operand)
    (ho : o.op = .convert src dst x) (hs : P.underlying src = some .string) (hd : P.underlying dst = some (.slice e)) (he : P.underlying e = some (.int .u8)) (l : List UInt8) (hx : a.eval x = .string ⟨l.toArray⟩) (hl : l.length ≤ maxLen)
    (h : ∀ A n c w', l.length = n → n ≤ c → c ≤ maxLen → Rd w' w'.heap.size 1 A n (bv l) → Below w.heap.size w w' → wpList P ops Q rest (a.put o.dst (.slice A n c)) w') : wpList P ops Q (o :: rest) a w := by
  refine wpList_plain hgd fun K hK => ?_
  have hrun := run_bytes_of_string (P := P) w src dst e ⟨l.toArray⟩ hs hd he
  have hsz : (ByteArray.mk l.toArray).size = l.length := by simp [ByteArray.size]
  rw [hsz] at hrun
  unfold Oper.wp
  simp only [execOp, ho, hx, Sem.run_bind, hrun, Result.andThen_ok, Sem.run_pure]
  refine hK _ _ (h _ _ _ _ rfl (grownCap_ge w l.length 0 e) (grownCap_le_maxLen w l.length 0 e hl) ⟨by simp, fun hp => ⟨w.heap.size, 0, rfl, by simp, fun j hj => ?_⟩⟩ ?_)
  · have hj' : j < l.length := by simpa using hj
    rw [Nat.zero_add, cell_of_row _ w.heap.size j _ e _ (heap_alloc_new w.drew _), bv_get l j hj']
    simp [bytesRow, Array.getElem?_append, hj']
  · exact ((Below.refl _ _).drew).alloc (Nat.le_refl _) _
/-- A block that was just made, as a row. -/
theorem Rd.made (w : World) (cs : List Value) {e size n b : Nat} (hn : cs.length = n * size) (hb : b = w.heap.size) : Rd (w.alloc (.cells cs.toArray e)) (w.heap.size + 1) size (some ⟨b, 0, none⟩) n cs := by
  subst hb
  refine ⟨hn, fun _ => ⟨w.heap.size, 0, rfl, by omega, fun j hj => ?_⟩⟩
  rw [Nat.zero_add, cell_of_row _ w.heap.size j _ e _ (heap_alloc_new w _)]
  simp
end
end Go.Proofs.Ytpkoijlbbfffiaa
