/- Writers and readers that are not there; a writer that came to grief. -/
import Derived.Test.YtieipnnpkngegaaDoorRf
namespace Go.Proofs.YtieipnnpkngegaaDoor
open Go.RowKit Go.Proofs.YtieipnnpkngegaaDoorW.PrintWords

/-- A new writer, out of nothing. -/
def NEnd0 (w : World) (l : List UInt8) (x : Ending) (w' : World) : Prop := ∃ g v, x = .returned (.pointer (some ⟨g, 0, none⟩)) ∧ IsW w' w.heap.size g v l 0 ∧ Keeps No w w'
set_option maxHeartbeats 800000 in
theorem wbyte_nil (w : World) : Calls Tryd.prog 39 #[.pointer none, .slice none 0 0] w (NEnd0 w []) := by
  have HN := Lib.hid (isW_new w w.heap.size (Nat.le_refl _))
  go_enter Tryd.func39, Tryd.ntmps39
  go_wp2
  go_ret
  exact ⟨w.heap.size, _, rfl, HN.out, (Keeps.refl _ _).alloc _⟩
set_option maxHeartbeats 800000 in
theorem wbyte_bad (w : World) (base g : Nat) (v : Value) (l : List UInt8) (A : Option Addr) (n c : Nat) (hW : IsW w base g v l 3) :
    Calls Tryd.prog 39 #[.pointer (some ⟨g, 0, none⟩), .slice A n c] w fun e w' => e = .returned (.pointer (some ⟨g, 0, none⟩)) ∧ w = w' := by
  have c1 : w.cell? ⟨g, 1, none⟩ = some (.int .i64 3) := by rw [blk_cell hW.blk]; rfl
  clear hW
  go_enter Tryd.func39, Tryd.ntmps39
  go_wp2
  go_ret
  exact ⟨rfl, rfl⟩
set_option maxHeartbeats 800000 in
theorem wdone_bad (w : World) (base g : Nat) (v : Value) (l : List UInt8) (hW : IsW w base g v l 3) :
    Calls Tryd.prog 20 #[.pointer (some ⟨g, 0, none⟩)] w fun e w' => e = .returned (.tuple #[.slice none 0 0, .int .i64 3]) ∧ ∃ m, w' = w.drewN m := by
  have HW := Lib.hid hW
  have c1 : w.cell? ⟨g, 1, none⟩ = some (.int .i64 3) := by rw [blk_cell hW.blk]; rfl
  clear hW
  go_enter Tryd.func20, Tryd.ntmps20
  go_wp2_with fail
  refine (wbyte_bad _ base g v l _ _ _ HW.out).mono ?_
  rintro e w1 ⟨rfl, rfl⟩
  go_wp2
  go_quiet (fail)
  go_wp2
  go_ret2
  exact ⟨rfl, _, rfl⟩
set_option maxHeartbeats 800000 in
theorem wtext_nil (w : World) (s : ByteArray) (hs : s.size ≤ 65535) : Calls Tryd.prog 38 #[.pointer none, .string s] w (NEnd0 w (be2 s.size ++ s.data.toList)) := by
  have kb := fun W => print_bytes (P := Tryd.prog) 9 22 5 Tryd.underlying9 Tryd.underlying22 Tryd.underlying5 s W
  go_enter Tryd.func38, Tryd.ntmps38
  go_wp2_with fail
  refine (wbyte_nil _).mono ?_
  rintro e w1 ⟨g, v, rfl, hw1, hk1⟩
  have HW1 := Lib.hid hw1
  have HK1 := Lib.hid hk1
  have hsz := hk1.size
  clear hw1 hk1
  go_wp2_with fail
  refine (wtwo_ok _ _ g v [] _ (by omega) (by omega) HW1.out hsz (by simp)).mono ?_
  rintro e w2 ⟨rfl, v2, h2⟩
  have HH2 := Lib.hid (WPost.outer HK1.out HW1.out h2 (Nat.le_refl _))
  have HW2 := Lib.hid h2.is
  have hs2 := h2.keeps.size
  clear h2
  go_wp2_with fail
  refine (wbyte_ok _ _ g v2 _ s.data.toList _ _ _ (HW2.out.keptNo (keeps_bytes _ _ _)) (rd_bytes _ _ _ (by omega)) ?_ ?_).mono ?_
  · have := (keeps_bytes w2 5 s).size; omega
  · simp [be2_len]; omega
  rintro e w3 ⟨rfl, v3, h3⟩
  go_wp2
  go_ret
  refine ⟨g, v3, rfl, ?_, WPost.outer HH2.out HW2.out (h3.before (keeps_bytes w2 5 s)) (Nat.le_refl _)⟩
  have h4 := h3.is
  simpa using h4
set_option maxHeartbeats 800000 in
theorem wtext_long (w : World) (base g : Nat) (v : Value) (s : ByteArray) (hs : 65535 < s.size) (hW : IsW w base g v [] 0) (hbase : base ≤ w.heap.size) :
    Calls Tryd.prog 38 #[.pointer (some ⟨g, 0, none⟩), .string s] w (WEnd w base g v [] 3) := by
  have HW := Lib.hid hW
  clear hW
  go_enter Tryd.func38, Tryd.ntmps38
  go_wp2_with fail
  refine (wbyte_ok _ base g v [] [] _ _ _ HW.out (Rd.nil _) hbase (by simp)).mono ?_
  rintro e w1 ⟨rfl, v1, h1⟩
  have HH := Lib.hid h1
  have hs1 := h1.keeps.size
  have c1 : w1.cell? ⟨g, 1, none⟩ = some (.int .i64 0) := by rw [blk_cell h1.is.blk]; rfl
  have f1 : w1.frozen? ⟨g, 1, none⟩ = false := by rw [blk_frozen h1.is.blk]
  have hb := h1.is.blk
  have HO := Lib.hid h1.is.row
  have HBL := Lib.hid hb
  clear h1 hb
  go_wp2
  go_ret
  refine ⟨rfl, v1, ⟨by simpa using blk_set HBL.out 1 _, HH.out.is.low, own_setCell HO.out HH.out.is.ne _⟩, HH.out.keeps.setCell (.inl (.inl rfl)) _, HH.out.row⟩
/-- A reader that is not there. -/
theorem take_nil (w : World) (n : Int) (_hn : n ≤ 9223372036854775807) : Calls Tryd.prog 24 #[.pointer none, .int .i64 n] w fun e w' => e = .returned (.slice none 0 0) ∧ w = w' := by
  have hmx := max_num n
  go_enter Tryd.func24, Tryd.ntmps24
  go_wp2
  go_ret
  exact ⟨rfl, rfl⟩
theorem rerr_nil (w : World) : Calls Tryd.prog 36 #[.pointer none] w fun e w' => e = .returned (.int .i64 4) ∧ w = w' := by
  go_enter Tryd.func36, Tryd.ntmps36
  go_wp2
  go_ret
  exact ⟨rfl, rfl⟩
theorem rleft_nil (w : World) : Calls Tryd.prog 35 #[.pointer none] w fun e w' => e = .returned (.int .i64 0) ∧ w = w' := by
  go_enter Tryd.func35, Tryd.ntmps35
  go_wp2
  go_ret
  exact ⟨rfl, rfl⟩
theorem rrest_nil (w : World) : Calls Tryd.prog 33 #[.pointer none] w fun e w' => e = .returned (.slice none 0 0) ∧ w = w' := by
  go_enter Tryd.func33, Tryd.ntmps33
  go_wp2_with fail
  refine (rleft_nil _).mono ?_
  rintro e w1 ⟨rfl, rfl⟩
  go_wp2_with fail
  refine (take_nil _ _ (by omega)).mono ?_
  rintro e w1 ⟨rfl, rfl⟩
  go_wp2
  go_ret
  exact ⟨rfl, rfl⟩
theorem rnumber_nil (w : World) (m : Int) (hm : m ≤ 8) : Calls Tryd.prog 62 #[.pointer none, .int .i64 m] w fun e w' => e = .returned (.int .u64 0) ∧ w = w' := by
  go_enter Tryd.func62, Tryd.ntmps62
  go_wp2_with fail
  refine (take_nil _ _ (by omega)).mono ?_
  rintro e w1 ⟨rfl, rfl⟩
  go_wp2
  go_loop [5, 12] (fun nv iv => iv = .int .i64 0 ∧ nv = .int .u64 0) (fun _ _ => 0)
  case atStart => exact ⟨rfl, rfl⟩
  case round =>
    obtain ⟨rfl, rfl⟩ := hrel
    go_wp2
    go_ret
    exact ⟨rfl, rfl⟩
theorem rbyte_nil (w : World) : Calls Tryd.prog 26 #[.pointer none] w fun e w' => e = .returned (.int .u8 0) ∧ w = w' := by
  go_enter Tryd.func26, Tryd.ntmps26
  go_wp2_with fail
  refine (rnumber_nil _ _ (by omega)).mono ?_
  rintro e w1 ⟨rfl, rfl⟩
  go_wp2
  go_ret
  exact ⟨rfl, rfl⟩
/-- A new reader's row is new. -/
theorem new_far (w : World) (A : Option Addr) (n c : Nat) (l : List UInt8) (hR : Rd w A n l) (hn : n ≤ 140737488355328) :
    Calls Tryd.prog 23 #[.slice A n c] w fun e w' => ∃ g A1 c1, e = .returned (.pointer (some ⟨g, 0, none⟩)) ∧ w'.heap[g]? = some (.cells #[.slice A1 l.length c1, .bool false] 95 (0, 0)) ∧ l.length ≤ c1 ∧ Rd w' A1 l.length l ∧
      (∀ ad, A1 = some ad → ad.block ≠ g ∧ w.heap.size ≤ ad.block) ∧ w.heap.size ≤ g ∧ Keeps No w w' := by
  have HR := Lib.hid hR
  clear hR
  go_enter Tryd.func23, Tryd.ntmps23
  go_wp2_with fail
  refine (sclone_any _ _ _ _ _ HR.out hn).mono ?_
  rintro e w1 ⟨r, rfl, h1⟩
  have hob := fun q hq => own_base h1.row q hq
  have hol := fun q hq => own_lt h1.row q hq
  obtain ⟨A1, c1, rfl, hc1, hR1⟩ := h1.row.rd
  have H1 := Lib.hid h1
  have HR1 := Lib.hid hR1
  have HB := Lib.hid hob
  have HL := Lib.hid hol
  clear h1 hR1 hob hol
  go_wp2
  go_ret
  refine ⟨_, A1, c1, rfl, heap_alloc_new w1 _, hc1, ((Keeps.refl No w1).alloc _).rdNo HR1.out, fun ad h => ⟨fun e => ?_, HB.out ad.block (by rw [h]; rfl)⟩, H1.out.keeps.size, H1.out.keeps.alloc _⟩
  have := HL.out ad.block (by rw [h]; rfl)
  omega
end Go.Proofs.YtieipnnpkngegaaDoor
