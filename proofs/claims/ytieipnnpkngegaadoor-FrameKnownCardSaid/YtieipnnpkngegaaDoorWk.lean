/- The writer's end, and what the document's examples say. -/
import Derived.Test.YtieipnnpkngegaaDoorSc
namespace Go.Proofs.YtieipnnpkngegaaDoor
open Go.RowKit Go.Proofs.YtieipnnpkngegaaDoorW.PrintWords

/-- What Done leaves: the writer as it was, and its bytes in new memory. -/
structure DPost (w : World) (base g : Nat) (v : Value) (l : List UInt8) (w' : World) (v' r : Value) : Prop where
  post : WPost w base g v l 0 w' v'
  row : Ow w' w.heap.size r l
  apart : ∀ k, r.ownBlock = some k → v'.ownBlock ≠ some k
def DEnd (w : World) (base g : Nat) (v : Value) (l : List UInt8) (x : Ending) (w' : World) : Prop := ∃ r v', x = .returned (.tuple #[r, .int .i64 0]) ∧ DPost w base g v l w' v' r

set_option maxHeartbeats 800000 in
theorem wdone_ok (w : World) (base g : Nat) (v : Value) (l : List UInt8) (hW : IsW w base g v l 0) (hbase : base ≤ w.heap.size) (hl : l.length ≤ 140737488355328) :
    Calls Tryd.prog 20 #[.pointer (some ⟨g, 0, none⟩)] w (DEnd w base g v l) := by
  have HW := Lib.hid hW; clear hW
  go_enter Tryd.func20, Tryd.ntmps20
  go_wp2_with fail
  refine (wbyte_ok _ base g v l [] _ _ _ HW.out (Rd.nil _) hbase (by omega)).mono ?_
  rintro e w1 ⟨rfl, v1, h1⟩
  rw [List.append_nil] at h1
  have HH := Lib.hid h1
  have c1 : w1.cell? ⟨g, 1, none⟩ = some (.int .i64 0) := by rw [blk_cell h1.is.blk]; rfl
  obtain ⟨A1, k1, rfl, hk1, hR1⟩ := h1.is.row.rd
  have c0 : w1.cell? ⟨g, 0, none⟩ = some (.slice A1 l.length k1) := by rw [blk_cell h1.is.blk]; rfl
  clear h1
  go_wp2_with fail
  refine (sclone_any _ _ _ _ l hR1 hl).mono ?_
  rintro e w2 ⟨r, rfl, h2⟩
  have H2 := Lib.hid h2
  clear h2
  go_wp2
  go_ret2
  exact ⟨r, _, rfl, HH.out.after H2.out.keeps, own_less H2.out.row HH.out.keeps.size, fun k hk hk' => by
    have h3 := own_base H2.out.row k hk
    have h4 := HH.out.is.rowlt k hk'
    omega⟩

theorem be2_513 : be2 513 = [2, 1] := by decide
theorem be2_2 : be2 2 = [0, 2] := by decide
theorem isW_new (w : World) (base : Nat) (hb : base ≤ w.heap.size) : IsW (w.alloc (.cells #[.slice none 0 0, .int .i64 0] 30)) base w.heap.size (.slice none 0 0) [] 0 :=
  ⟨heap_alloc_new w _, hb, Ow.nil _ _⟩
/-- A slice's literal. -/
theorem rd_lit (w : World) (l : List UInt8) (h : l.length ≤ 9223372036854775807) : Rd (w.alloc (.cells (encs B8 l).toArray 5)) (some ⟨w.heap.size, 0, none⟩) l.length l := by
  obtain ⟨A, c, e, _, hr⟩ := Ow.rd (own_lit_of (enc := B8) w w.heap.size 5 l (Nat.le_refl _) h)
  injection e with e1
  rw [e1]; exact hr
theorem rd_lit' (w : World) (cs : Array Value) (l : List UInt8) (n : Nat) (hc : cs = (encs B8 l).toArray) (hn : l.length = n) (h : n ≤ 9223372036854775807) : Rd (w.alloc (.cells cs 5)) (some ⟨w.heap.size, 0, none⟩) n l := by
  subst hc; subst hn; exact rd_lit w l h
theorem WPost.outer {S : Nat → Prop} {a w w1 : World} {base g : Nat} {v v1 : Value} {l l' : List UInt8} {e e' : Int} (k : Keeps S a w) (hW : IsW w base g v l' e') (h : WPost w base g v l e w1 v1) (hb : a.heap.size ≤ base) : Keeps S a w1 :=
  k.trans h.keeps (by
    rintro i (rfl | hi)
    · exact .inr (Nat.le_trans hb hW.low)
    · exact .inr (Nat.le_trans hb (own_base hW.row i hi)))
theorem Tabb.lt {w : World} (h : Tabb w) : 1 < w.heap.size := World.block_lt_of_cell? w _ (h 0 (by omega))
theorem Tabb.keptNo {w w1 : World} (h : Tabb w) (hk : Keeps No w w1) : Tabb w1 := h.kept hk (fun h => h)
theorem crc_digits : crcOf [49, 50, 51, 52, 53, 54, 55, 56, 57] = 3421780262 := by decide +kernel

set_option maxHeartbeats 1600000 in
set_option maxRecDepth 100000 in
theorem wakes_any (w : World) (hT : Tabb w) : Calls Tryd.prog 16 #[] w fun e w' => e = .returned (.bool true) ∧ Keeps No w w' := by
  have HT := Lib.hid hT
  clear hT
  go_enter Tryd.func16, Tryd.ntmps16
  go_wp2_with fail
  refine (wtwo_ok _ w.heap.size w.heap.size (.slice none 0 0) [] _ (by omega) (by omega) (isW_new w w.heap.size (Nat.le_refl _)) (by simp) (by simp)).mono ?_
  rintro e w1 ⟨rfl, v1, h1⟩
  have H1 := Lib.hid h1
  have K1 := Lib.hid (WPost.outer ((Keeps.refl No w).alloc _) (isW_new w w.heap.size (Nat.le_refl _)) h1 (Nat.le_refl _))
  have hs1 := K1.out.size
  have hl1 : ([] ++ be2 (Int.toNat 513)).length = 2 := rfl
  clear h1
  go_wp2_with fail
  refine (wtext_ok _ w.heap.size w.heap.size v1 _ _ (by decide) H1.out.is (by omega) (by rw [hl1]; decide)).mono ?_
  rintro e w2 ⟨rfl, v2, h2⟩
  have K2 := Lib.hid (WPost.outer K1.out H1.out.is h2 (Nat.le_refl _))
  have hl2 : ([] ++ be2 (Int.toNat 513) ++ be2 (ByteArray.size { data := #[97, 98] }) ++ ({ data := #[97, 98] } : ByteArray).data.toList) = [2, 1, 0, 2, 97, 98] := by decide
  rw [hl2] at h2
  have H2 := Lib.hid h2
  have hs2 := K2.out.size
  clear h2 hl2 hl1
  go_wp2_with fail
  refine (wdone_ok _ w.heap.size w.heap.size v2 _ H2.out.is (by omega) (by decide)).mono ?_
  rintro e w3 ⟨r, v3, rfl, h3⟩
  have K3 := Lib.hid (WPost.outer K2.out H2.out.is h3.post (Nat.le_refl _))
  obtain ⟨A, c, rfl, hc, hR⟩ := h3.row.rd
  have HR := Lib.hid hR
  clear h3 hR
  go_wp2_with fail
  refine (bequal_any _ _ _ _ _ _ _ _ [2, 1, 0, 2, 97, 98] (((Keeps.refl No w3).alloc _).rdNo HR.out) (rd_lit' w3 _ _ 6 rfl rfl (by decide))).mono ?_
  rintro e w4 ⟨rfl, rfl⟩
  have K4 := Lib.hid ((K3.out.alloc (.cells (encs B8 [2, 1, 0, 2, 97, 98]).toArray 5)).alloc (.cells (encs B8 [49, 50, 51, 52, 53, 54, 55, 56, 57]).toArray 5 (9, 10)))
  have hq : (([2, 1, 0, 2, 97, 98] : List UInt8) == [2, 1, 0, 2, 97, 98]) = true := by decide
  have hcd := crc_digits
  have kc := fun (o : Obj) (C : Array Value) (n c : Nat) => Lib.run_convert_bytes_const (P := Tryd.prog) (w3.alloc o) 22 5 C n c Tryd.underlying22 Tryd.underlying5
  simp only [World.size_alloc] at kc
  go_wp2_with fail
  refine (crc_any _ _ _ _ [49, 50, 51, 52, 53, 54, 55, 56, 57] (by exact rd_mark _ _ _ _ 9 _ rfl rfl (by decide) (by simp)) (by exact HT.out.keptNo K4.out)).mono ?_
  rintro e w5 ⟨rfl, rfl⟩
  go_wp2
  go_ret
  exact ⟨rfl, K4.out⟩
end Go.Proofs.YtieipnnpkngegaaDoor
