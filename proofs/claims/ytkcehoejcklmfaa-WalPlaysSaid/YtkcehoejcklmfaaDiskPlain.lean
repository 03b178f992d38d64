/- The disk as plain data, and what each call does to it (no program in sight). -/
namespace Go.Proofs.Ytkcehoejcklmfaa.D

/-- A disk: how much its log may have; what of it is sure; what is behind that; the slots as they were written, and as they are sure. -/
structure St where
  room : Nat
  sure : List UInt8
  rest : List UInt8
  n0 : List UInt8
  n1 : List UInt8
  s0 : List UInt8
  s1 : List UInt8

def St.log (s : St) : List UInt8 := s.sure ++ s.rest
def St.ok (s : St) : Prop := s.room ≤ 1048576 ∧ s.log.length ≤ s.room
def newS (room : Int) : St := ⟨(max 0 (min room 1048576)).toNat, [], [], [], [], [], []⟩
/-- An error's number, and the disk behind it. -/
def St.app (s : St) (b : List UInt8) : St × Int := if s.room < s.log.length + b.length then (s, 4) else ({ s with rest := s.rest ++ b }, 0)
def St.sync (s : St) : St := { s with sure := s.log, rest := [], s0 := s.n0, s1 := s.n1 }
def St.clear (s : St) : St := { s with sure := [], rest := [] }
def St.write (s : St) (k : Int) (b : List UInt8) : St × Int := if k = 0 then ({ s with n0 := b }, 0) else if k = 1 then ({ s with n1 := b }, 0) else (s, 1)
def St.crash (s : St) (keep : Int) : St := { s with sure := s.sure ++ s.rest.take keep.toNat, rest := [], n0 := s.s0, n1 := s.s1 }

theorem newS_ok (room : Int) : (newS room).ok := by simp [newS, St.ok, St.log]; omega
theorem app_ok {s : St} (h : s.ok) (b : List UInt8) : (s.app b).1.ok := by
  unfold St.app
  split
  · exact h
  · rename_i hn
    obtain ⟨h1, h2⟩ := h
    refine ⟨h1, ?_⟩
    simp [St.log] at hn ⊢
    omega
theorem sync_ok {s : St} (h : s.ok) : s.sync.ok := by obtain ⟨h1, h2⟩ := h; exact ⟨h1, by simpa [St.sync, St.log] using h2⟩
theorem clear_ok {s : St} (h : s.ok) : s.clear.ok := ⟨h.1, by simp [St.clear, St.log]⟩
theorem write_ok {s : St} (h : s.ok) (k : Int) (b : List UInt8) : (s.write k b).1.ok := by
  unfold St.write
  repeat' split
  all_goals exact h
theorem crash_ok {s : St} (h : s.ok) (k : Int) : (s.crash k).ok := by
  obtain ⟨h1, h2⟩ := h
  refine ⟨h1, ?_⟩
  simp [St.crash, St.log] at h2 ⊢
  omega

/-- One thing that is done. -/
structure Op where
  kind : Nat
  n : Int
  b : List UInt8
def St.step (s : St) (o : Op) : St :=
  if o.kind % 7 = 3 then s.sync else if o.kind % 7 = 4 then s.crash o.n else if o.kind % 7 = 5 then (s.write o.n o.b).1 else if o.kind % 7 = 6 then s.clear else (s.app o.b).1
/-- What a step answers. -/
def St.err (s : St) (o : Op) : Int := if o.kind % 7 = 3 then 0 else if o.kind % 7 = 4 then 0 else if o.kind % 7 = 5 then (s.write o.n o.b).2 else if o.kind % 7 = 6 then 0 else (s.app o.b).2
theorem step_ok {s : St} (h : s.ok) (o : Op) : (s.step o).ok := by
  unfold St.step
  repeat' split
  · exact sync_ok h
  · exact crash_ok h _
  · exact write_ok h _ _
  · exact clear_ok h
  · exact app_ok h _
def St.steps (s : St) (l : List Op) : St := l.foldl St.step s
theorem steps_ok {s : St} (h : s.ok) (l : List Op) : (s.steps l).ok := by
  induction l generalizing s with
  | nil => exact h
  | cons o l ih => exact ih (step_ok h o)
end Go.Proofs.Ytkcehoejcklmfaa.D
