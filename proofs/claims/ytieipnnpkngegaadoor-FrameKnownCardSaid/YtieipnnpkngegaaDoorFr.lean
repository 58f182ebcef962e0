/- Frames: what they are, which may be, and what the table of them gives. -/
import Derived.Test.YtieipnnpkngegaaDoorNm
namespace Go.Proofs.YtieipnnpkngegaaDoor
open Go.RowKit Go.Proofs.YtieipnnpkngegaaDoorW.PrintWords
set_option linter.unusedSimpArgs false

/-- A frame. -/
structure Frm where
  kind : Nat
  ses : Nat
  ep : Nat
  num : Nat
  ack : Nat
  mask : Nat
  pl : List UInt8
structure Frm.Ok (f : Frm) : Prop where
  kind : f.kind < 256
  ses : f.ses < 4294967296
  ep : f.ep < 4294967296
  num : f.num < 4294967296
  ack : f.ack < 4294967296
  mask : f.mask < 4294967296
/-- Its cells: the program's and the document's. -/
def Frm.cs (f : Frm) (v : Value) : Array Value := #[.int .u8 f.kind, .int .u32 f.ses, .int .u32 f.ep, .int .u32 f.num, .int .u32 f.ack, .int .u32 f.mask, v]
def Frm.rs (f : Frm) (v : Value) : Array Value := #[.int .i64 f.kind, .int .u32 f.ses, .int .u32 f.ep, .int .u32 f.num, .int .u32 f.ack, .int .u32 f.mask, v]
/-- May it be? -/
def bareB (f : Frm) : Bool := decide (f.num = 0) && (decide (f.ack = 0) && decide (f.mask = 0))
def mayB (f : Frm) : Bool :=
  decide (f.pl.length ≤ 256) && (if f.kind = 1 ∨ f.kind = 2 ∨ f.kind = 5 then bareB f else if f.kind = 3 then decide (f.num < 2147483648) else if f.kind = 4 then decide (f.num = 0) && decide (f.pl.length = 0) else false)
theorem nat_beq0 (a : Nat) : ((a : Int) == 0) = decide (a = 0) := by
  by_cases h : a = 0
  · subst h; rfl
  · simp [h]
/-- The table of functions. -/
structure MayT (w : World) : Prop where
  c1 : w.cell? ⟨0, 1, none⟩ = some (.func (.func 95) #[] #[])
  c2 : w.cell? ⟨0, 2, none⟩ = some (.func (.func 95) #[] #[])
  c3 : w.cell? ⟨0, 3, none⟩ = some (.func (.func 96) #[] #[])
  c4 : w.cell? ⟨0, 4, none⟩ = some (.func (.func 97) #[] #[])
  c5 : w.cell? ⟨0, 5, none⟩ = some (.func (.func 95) #[] #[])
theorem MayT.lt {w : World} (h : MayT w) : 0 < w.heap.size := by
  have := h.c1
  unfold World.cell? at this
  cases hb : w.heap[0]? with
  | none => simp [hb] at this
  | some o => exact blk_lt hb
theorem MayT.kept {w w1 : World} (h : MayT w) {S : Nat → Prop} (k : Keeps S w w1) (hS : ¬ S 0) : MayT w1 := ⟨k.cell h.c1 hS, k.cell h.c2 hS, k.cell h.c3 hS, k.cell h.c4 hS, k.cell h.c5 hS⟩
theorem MayT.keptNo {w w1 : World} (h : MayT w) (k : Keeps No w w1) : MayT w1 := h.kept k (fun h => h)

set_option maxRecDepth 100000 in
set_option maxHeartbeats 1600000 in
theorem bare_any (w : World) (f : Frm) (A : Option Addr) (c : Nat) :
    Calls Tryd.prog 95 #[.agg (f.cs (.slice A f.pl.length c))] w fun e w' => e = .returned (.bool (bareB f)) ∧ Keeps No w w' := by
  obtain ⟨kind, ses, ep, num, ack, mask, pl⟩ := f
  simp only [Frm.cs, bareB] 
  generalize pl.length = n at *
  go_enter Tryd.func95, Tryd.ntmps95
  go_wp2
  all_goals
    go_ret
    refine ⟨?_, (Keeps.refl No w).alloc _⟩
    refine ret_eq (congrArg Value.bool ?_)
    first | (simp [nat_beq0]; done) | (exact decide_eq_decide.2 (by omega)) | (rw [nat_beq0]; by_cases h1 : num = 0 <;> by_cases h2 : ack = 0 <;> simp_all; done) | (by_cases h1 : num = 0 <;> simp_all [nat_beq0]; done) | trace_state
set_option maxRecDepth 100000 in
set_option maxHeartbeats 1600000 in
theorem data_any (w : World) (f : Frm) (A : Option Addr) (c : Nat) :
    Calls Tryd.prog 96 #[.agg (f.cs (.slice A f.pl.length c))] w fun e w' => e = .returned (.bool (decide (f.num < 2147483648))) ∧ Keeps No w w' := by
  obtain ⟨kind, ses, ep, num, ack, mask, pl⟩ := f
  simp only [Frm.cs, bareB] 
  generalize pl.length = n at *
  go_enter Tryd.func96, Tryd.ntmps96
  go_wp2
  all_goals
    go_ret
    refine ⟨?_, (Keeps.refl No w).alloc _⟩
    refine ret_eq (congrArg Value.bool ?_)
    first | (simp [nat_beq0]; done) | (exact decide_eq_decide.2 (by omega)) | (rw [nat_beq0]; by_cases h1 : num = 0 <;> by_cases h2 : ack = 0 <;> simp_all; done) | (by_cases h1 : num = 0 <;> simp_all [nat_beq0]; done) | trace_state
set_option maxRecDepth 100000 in
set_option maxHeartbeats 1600000 in
theorem ack_any (w : World) (f : Frm) (A : Option Addr) (c : Nat) :
    Calls Tryd.prog 97 #[.agg (f.cs (.slice A f.pl.length c))] w fun e w' => e = .returned (.bool (decide (f.num = 0) && decide (f.pl.length = 0))) ∧ Keeps No w w' := by
  obtain ⟨kind, ses, ep, num, ack, mask, pl⟩ := f
  simp only [Frm.cs, bareB] 
  generalize pl.length = n at *
  go_enter Tryd.func97, Tryd.ntmps97
  go_wp2
  all_goals
    go_ret
    refine ⟨?_, (Keeps.refl No w).alloc _⟩
    refine ret_eq (congrArg Value.bool ?_)
    first | (simp [nat_beq0]; done) | (exact decide_eq_decide.2 (by omega)) | (rw [nat_beq0]; by_cases h1 : num = 0 <;> by_cases h2 : ack = 0 <;> simp_all; done) | (by_cases h1 : num = 0 <;> simp_all [nat_beq0]; done) | trace_state
end Go.Proofs.YtieipnnpkngegaaDoor
