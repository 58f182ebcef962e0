/- What is signed tells the frame; what is encoded is decoded; in plain Lean. -/
import Derived.Test.YtieipnnpkngegaaDoorDs
import Derived.Test.YtieipnnpkngegaaDoorBk
import Derived.Test.YtieipnnpkngegaaDoorFn
namespace Go.Proofs.YtieipnnpkngegaaDoor

theorem natBE_be4 (n : Nat) (h : n < 4294967296) : natBE (be4 n) = n := by
  have e := natBE_num 4 n
  rw [numBE4, Nat.mod_eq_of_lt h] at e
  rw [e]
theorem natBE_be8 (n : Nat) (h : n < 18446744073709551616) : natBE (be8 n) = n := by
  have e := natBE_num 8 n
  rw [numBE8, Nat.mod_eq_of_lt h] at e
  rw [e]
theorem be4_inj {a b : Nat} (ha : a < 4294967296) (hb : b < 4294967296) (h : be4 a = be4 b) : a = b := by
  rw [← natBE_be4 a ha, ← natBE_be4 b hb, h]
theorem be8_inj {a b : Nat} (ha : a < 18446744073709551616) (hb : b < 18446744073709551616) (h : be8 a = be8 b) : a = b := by
  rw [← natBE_be8 a ha, ← natBE_be8 b hb, h]
theorem layL_inj {f g : Frm} (hf : f.Ok) (hg : g.Ok) (h : layL f = layL g) : f = g := by
  have hl : f.pl.length = g.pl.length := by
    have := congrArg List.length h
    rw [layL_len, layL_len] at this
    omega
  unfold layL at h
  obtain ⟨h, e7⟩ := List.append_inj' h hl
  obtain ⟨h, _⟩ := List.append_inj' h rfl
  obtain ⟨h, e5⟩ := List.append_inj' h rfl
  obtain ⟨h, e4⟩ := List.append_inj' h rfl
  obtain ⟨h, e3⟩ := List.append_inj' h rfl
  obtain ⟨h, e2⟩ := List.append_inj' h rfl
  obtain ⟨h, e1⟩ := List.append_inj' h rfl
  have e0 : f.kind = g.kind := by
    have h1 := congrArg UInt8.toNat (List.head_eq_of_cons_eq h)
    have a := hf.kind
    have b := hg.kind
    simp at h1
    omega
  have i1 := be4_inj hf.ses hg.ses e1
  have i2 := be4_inj hf.ep hg.ep e2
  have i3 := be4_inj hf.num hg.num e3
  have i4 := be4_inj hf.ack hg.ack e4
  have i5 := be4_inj hf.mask hg.mask e5
  obtain ⟨a0, a1, a2, a3, a4, a5, a6⟩ := f
  obtain ⟨b0, b1, b2, b3, b4, b5, b6⟩ := g
  simp only at e0 i1 i2 i3 i4 i5 e7
  subst e0 i1 i2 i3 i4 i5 e7
  rfl
/-- Are frames the same? -/
def sameB (f g : Frm) : Bool := decide (f.kind = g.kind) && (decide (f.ses = g.ses) && (decide (f.ep = g.ep) && (decide (f.num = g.num) && (decide (f.ack = g.ack) && (decide (f.mask = g.mask) && decide (f.pl = g.pl))))))
theorem sameB_iff (f g : Frm) : sameB f g = true ↔ f = g := by
  obtain ⟨a0, a1, a2, a3, a4, a5, a6⟩ := f
  obtain ⟨b0, b1, b2, b3, b4, b5, b6⟩ := g
  simp [sameB]
theorem lay_same {f g : Frm} (hf : f.Ok) (hg : g.Ok) : decide (layL f = layL g) = sameB f g := by
  rw [Bool.eq_iff_iff, decide_eq_true_iff, sameB_iff]
  exact ⟨layL_inj hf hg, fun h => h ▸ rfl⟩
end Go.Proofs.YtieipnnpkngegaaDoor
