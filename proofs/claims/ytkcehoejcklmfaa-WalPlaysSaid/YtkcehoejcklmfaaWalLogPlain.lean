/- The log on a disk as plain data, and what each call does to it. -/
import Derived.Test.YtkcehoejcklmfaaDiskPlain
import Derived.Test.YtkcehoejcklmfaaWalJoinPlain
namespace Go.Proofs.Ytkcehoejcklmfaa.L
open Go O D

/-- A log: its disk, its generation, how many bytes are kept. -/
structure LS where
  s : St
  gen : Nat
  kept : Nat
def LS.ok (x : LS) : Prop := x.s.ok ∧ x.gen < 4294967296 ∧ x.s.log.length + x.kept ≤ x.s.room
def LS.free (x : LS) : Nat := x.s.room - x.s.log.length - x.kept
/-- The error's number, and the log behind it. -/
def LS.keep (x : LS) (n : Int) : LS × Int := if n < 0 then (x, 1) else if (x.free : Int) < n then (x, 5) else ({ x with kept := x.kept + n.toNat }, 0)
def LS.let_ (x : LS) (n : Int) : LS := { x with kept := x.kept - (min n x.kept).toNat }
def LS.add (x : LS) (b : List UInt8) : LS × Int := if x.free < (frameL x.gen b).length then (x, 4) else ({ x with s := (x.s.app (frameL x.gen b)).1 }, 0)
def LS.addKept (x : LS) (b : List UInt8) : LS × Int := if x.kept < (frameL x.gen b).length then (x, 6) else ({ x with s := (x.s.app (frameL x.gen b)).1, kept := x.kept - (frameL x.gen b).length }, 0)
def LS.sync (x : LS) : LS := { x with s := x.s.sync }
def LS.check (x : LS) (b : List UInt8) : LS × Int :=
  if 1048576 < b.length then (x, 2) else if x.gen = 4294967295 then (x, 4) else ({ s := (x.s.write ((x.gen + 1) % 2 : Nat) (frameL (x.gen + 1) b)).1.sync.clear, gen := x.gen + 1, kept := x.kept }, 0)
theorem app_fits {s : St} {b : List UInt8} (h : s.log.length + b.length ≤ s.room) : s.app b = ({ s with rest := s.rest ++ b }, 0) := by unfold St.app; rw [if_neg (by omega)]
theorem app_log {s : St} {b : List UInt8} (h : s.log.length + b.length ≤ s.room) : (s.app b).1.log = s.log ++ b ∧ (s.app b).1.room = s.room := by rw [app_fits h]; simp [St.log]
theorem LS.keep_ok {x : LS} (h : x.ok) (n : Int) : (x.keep n).1.ok := by
  unfold LS.keep
  split
  · exact h
  · split
    · exact h
    · obtain ⟨h1, h2, h3⟩ := h
      refine ⟨h1, h2, ?_⟩
      simp only [LS.free] at *
      omega
theorem LS.let_ok {x : LS} (h : x.ok) (n : Int) : (x.let_ n).ok := by
  obtain ⟨h1, h2, h3⟩ := h
  exact ⟨h1, h2, by simp only [LS.let_]; omega⟩
theorem LS.add_ok {x : LS} (h : x.ok) (b : List UInt8) : (x.add b).1.ok := by
  unfold LS.add
  split
  · exact h
  · rename_i hn
    obtain ⟨h1, h2, h3⟩ := h
    simp only [LS.free] at hn
    have hf : x.s.log.length + (frameL x.gen b).length ≤ x.s.room := by omega
    obtain ⟨e1, e2⟩ := app_log hf
    refine ⟨app_ok h1 _, h2, ?_⟩
    simp only [e1, e2, List.length_append]
    omega
theorem LS.addKept_ok {x : LS} (h : x.ok) (b : List UInt8) : (x.addKept b).1.ok := by
  unfold LS.addKept
  split
  · exact h
  · rename_i hn
    obtain ⟨h1, h2, h3⟩ := h
    have hf : x.s.log.length + (frameL x.gen b).length ≤ x.s.room := by omega
    obtain ⟨e1, e2⟩ := app_log hf
    refine ⟨app_ok h1 _, h2, ?_⟩
    simp only [e1, e2, List.length_append]
    omega
theorem LS.sync_ok {x : LS} (h : x.ok) : x.sync.ok := by
  obtain ⟨h1, h2, h3⟩ := h
  exact ⟨D.sync_ok h1, h2, by simpa [LS.sync, St.sync, St.log] using h3⟩
theorem write_room (s : St) (k : Int) (b : List UInt8) : (s.write k b).1.room = s.room := by
  unfold St.write
  split
  · rfl
  · split <;> rfl
theorem write_log (s : St) (k : Int) (b : List UInt8) : (s.write k b).1.log = s.log := by
  unfold St.write
  split
  · rfl
  · split <;> rfl
theorem LS.write_ok {x : LS} (h : x.ok) (k : Int) (b : List UInt8) : LS.ok { x with s := (x.s.write k b).1 } := by
  obtain ⟨h1, h2, h3⟩ := h
  refine ⟨D.write_ok h1 _ _, h2, ?_⟩
  simp only [write_log, write_room]
  exact h3
theorem LS.clear_ok {x : LS} (h : x.ok) : LS.ok { x with s := x.s.clear } := by
  obtain ⟨h1, h2, h3⟩ := h
  refine ⟨D.clear_ok h1, h2, ?_⟩
  simp only [St.clear, St.log, List.length_append, List.length_nil]
  omega
theorem LS.check_ok {x : LS} (h : x.ok) (b : List UInt8) : (x.check b).1.ok := by
  unfold LS.check
  split
  · exact h
  · split
    · exact h
    · obtain ⟨h1, h2, h3⟩ := h
      refine ⟨D.clear_ok (D.sync_ok (D.write_ok h1 _ _)), by simp only; omega, ?_⟩
      simp only [St.clear, St.sync, St.log, List.length_append, List.length_nil, write_room]
      omega
end Go.Proofs.Ytkcehoejcklmfaa.L
