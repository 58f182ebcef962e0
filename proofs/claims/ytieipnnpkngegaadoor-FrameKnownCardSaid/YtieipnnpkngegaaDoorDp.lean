/- Decoding, in plain Lean: what the readings of a datagram come to. -/
import Derived.Test.YtieipnnpkngegaaDoorRd
import Derived.Test.YtieipnnpkngegaaDoorFe
namespace Go.Proofs.YtieipnnpkngegaaDoor

theorem takeS_ok {s : RS} {m : Nat} (h : (takeS s m).short = false) : s.short = false ∧ m ≤ s.l.length ∧ takeS s m = ⟨s.l.drop m, false⟩ ∧ takeO s m = s.l.take m := by
  obtain ⟨l, b⟩ := s
  unfold takeS takeO at *
  cases b with
  | true => simp at h
  | false =>
    by_cases h2 : l.length < m
    · simp [h2] at h
    · simp [h2]; omega
theorem takeS_go (l : List UInt8) (a m : Nat) (h : a + m ≤ l.length) : takeS ⟨l.drop a, false⟩ m = ⟨l.drop (a + m), false⟩ ∧ takeO ⟨l.drop a, false⟩ m = (l.drop a).take m := by
  have h2 : ¬ (l.length - a < m) := by omega
  simp [takeS, takeO, h2, List.drop_drop]
/-- The readings, one behind the other. -/
def rd5 (l : List UInt8) : Nat → RS
  | 0 => takeS ⟨l, false⟩ 1
  | k + 1 => takeS (rd5 l k) 4
def rv (l : List UInt8) (k : Nat) : Nat := natBE (takeO (rd5 l k) 4)
def kd0 (l : List UInt8) : Nat := natBE (takeO ⟨l, false⟩ 1)
def s7 (l : List UInt8) : RS := textS (rd5 l 5)
def s8 (l : List UInt8) : RS := takeS (s7 l) 8
def s9 (l : List UInt8) : RS := takeS (s8 l) 4
/-- How many bytes of payload it tells of. -/
def decN (l : List UInt8) : Nat := natBE ((l.drop 21).take 2)
def zf : Frm := ⟨0, 0, 0, 0, 0, 0, []⟩
def frmOf (l : List UInt8) : Frm := ⟨natBE (l.take 1), natBE ((l.drop 1).take 4), natBE ((l.drop 5).take 4), natBE ((l.drop 9).take 4), natBE ((l.drop 13).take 4), natBE ((l.drop 17).take 4), (l.drop 23).take (decN l)⟩
/-- What Decode tells: the error, the frame, the tag. -/
def decE (l : List UInt8) : Int :=
  if l.length < 35 + decN l then 4 else if 35 + decN l < l.length then 5 else if natBE (l.drop (31 + decN l)) ≠ crcOf (l.take (31 + decN l)) then 11 else if mayB (frmOf l) = true then 0 else 5
def decF (l : List UInt8) : Frm := if decE l = 0 then frmOf l else zf
def decT (l : List UInt8) : Nat := if decE l = 0 then natBE ((l.drop (23 + decN l)).take 8) else 0

theorem rd5_go (l : List UInt8) : ∀ k, 1 + 4 * k ≤ l.length → rd5 l k = ⟨l.drop (1 + 4 * k), false⟩
  | 0, h => by
    have := (takeS_go l 0 1 (by omega)).1
    simpa [rd5] using this
  | k + 1, h => by
    have h1 := rd5_go l k (by omega)
    show takeS (rd5 l k) 4 = _
    rw [h1, (takeS_go l (1 + 4 * k) 4 (by omega)).1, show 1 + 4 * k + 4 = 1 + 4 * (k + 1) by omega]
theorem rd5_ok (l : List UInt8) : ∀ k, (rd5 l k).short = false → 1 + 4 * k ≤ l.length
  | 0, h => by
    have := (takeS_ok (s := ⟨l, false⟩) (m := 1) h).2.1
    simpa using this
  | k + 1, h => by
    obtain ⟨h1, h2, _⟩ := takeS_ok (s := rd5 l k) (m := 4) h
    have h3 := rd5_ok l k h1
    rw [rd5_go l k h3] at h2
    simp at h2
    omega
theorem rv_go (l : List UInt8) (k : Nat) (h : 1 + 4 * k + 4 ≤ l.length) : rv l k = natBE ((l.drop (1 + 4 * k)).take 4) := by
  unfold rv
  rw [rd5_go l k (by omega), (takeS_go l (1 + 4 * k) 4 h).2]
/-- Long enough: nothing is short. -/
structure DecOk (l : List UInt8) : Prop where
  frm : (⟨kd0 l, rv l 0, rv l 1, rv l 2, rv l 3, rv l 4, textO (rd5 l 5)⟩ : Frm) = frmOf l
  tag : natBE (takeO (s7 l) 8) = natBE ((l.drop (23 + decN l)).take 8)
  sum : natBE (takeO (s8 l) 4) = natBE ((l.drop (31 + decN l)).take 4)
  last : s9 l = ⟨l.drop (35 + decN l), false⟩
theorem text_go (l : List UInt8) (h : 23 + decN l ≤ l.length) : textO (rd5 l 5) = (l.drop 23).take (decN l) ∧ s7 l = ⟨l.drop (23 + decN l), false⟩ := by
  have h5 := rd5_go l 5 (by omega)
  have h2 := takeS_go l 21 2 (by omega)
  have h3 := takeS_go l 23 (decN l) h
  unfold s7 textO textS
  rw [h5]
  simp only [Nat.reduceMul, Nat.reduceAdd]
  rw [h2.1, h2.2]
  exact ⟨h3.2, h3.1⟩
theorem decOk (l : List UInt8) (h : 35 + decN l ≤ l.length) : DecOk l := by
  obtain ⟨ht, h7⟩ := text_go l (by omega)
  have h8 := takeS_go l (23 + decN l) 8 (by omega)
  have e8 : s8 l = ⟨l.drop (31 + decN l), false⟩ := by
    unfold s8
    rw [h7, h8.1, show 23 + decN l + 8 = 31 + decN l by omega]
  have h9 := takeS_go l (31 + decN l) 4 (by omega)
  refine ⟨?_, ?_, ?_, ?_⟩
  · rw [ht, rv_go l 0 (by omega), rv_go l 1 (by omega), rv_go l 2 (by omega), rv_go l 3 (by omega), rv_go l 4 (by omega)]
    have := (takeS_go l 0 1 (by omega)).2
    simp only [List.drop_zero] at this
    unfold kd0
    rw [this]
    rfl
  · rw [h7, h8.2]
  · rw [e8, h9.2]
  · unfold s9
    rw [e8, h9.1, show 31 + decN l + 4 = 35 + decN l by omega]
theorem s9_ok (l : List UInt8) (h : (s9 l).short = false) : 35 + decN l ≤ l.length := by
  obtain ⟨h8, n8, _⟩ := takeS_ok (s := s8 l) (m := 4) h
  obtain ⟨h7, n7, e8, _⟩ := takeS_ok (s := s7 l) (m := 8) h8
  have e8' : s8 l = ⟨(s7 l).l.drop 8, false⟩ := e8
  obtain ⟨h6, n6, e7, _⟩ := takeS_ok (s := takeS (rd5 l 5) 2) (m := natBE (takeO (rd5 l 5) 2)) h7
  obtain ⟨h5, n5, e6, o6⟩ := takeS_ok (s := rd5 l 5) (m := 2) h6
  have l5 := rd5_ok l 5 h5
  have e5 := rd5_go l 5 l5
  rw [e5] at n5 o6
  simp only [Nat.reduceMul, Nat.reduceAdd, List.length_drop] at n5 o6
  have l21 : 23 ≤ l.length := by omega
  have eN : natBE (takeO (rd5 l 5) 2) = decN l := by
    rw [e5]
    simp only [Nat.reduceMul, Nat.reduceAdd]
    rw [o6]
    rfl
  rw [eN, e6, e5] at n6
  simp only [Nat.reduceMul, Nat.reduceAdd, List.length_drop, List.drop_drop] at n6
  obtain ⟨_, h7'⟩ := text_go l (by omega)
  rw [e8', h7'] at n8
  rw [h7'] at n7
  simp only [List.length_drop] at n7 n8
  omega
theorem decE_short (l : List UInt8) (h : (s9 l).short = true) : decE l = 4 := by
  unfold decE
  rw [if_pos]
  by_cases hl : 35 + decN l ≤ l.length
  · rw [(decOk l hl).last] at h
    cases h
  · omega
theorem decF_bad {l : List UInt8} (h : decE l ≠ 0) : decF l = zf := if_neg h
theorem decT_bad {l : List UInt8} (h : decE l ≠ 0) : decT l = 0 := if_neg h
end Go.Proofs.YtieipnnpkngegaaDoor
