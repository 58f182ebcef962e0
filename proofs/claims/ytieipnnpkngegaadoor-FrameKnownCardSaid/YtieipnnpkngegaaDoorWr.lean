/- The writer's calls: what each leaves. -/
import Derived.Test.YtieipnnpkngegaaDoorProg
import Derived.Test.YtieipnnpkngegaaDoorU
namespace Go.Proofs.YtieipnnpkngegaaDoor
open Go.RowKit Go.Proofs.YtieipnnpkngegaaDoorW.PrintWords

theorem Tryd.info5 : (Tryd.prog.info? 5).map (fun i => (i.zero, i.size, i.bytes)) = some (some (.int .u8 0), 1, 1) := by kernel_rfl

/-- A writer: at block g, the bytes l laid in the row v, the error e. -/
structure IsW (w : World) (base g : Nat) (v : Value) (l : List UInt8) (e : Int) : Prop where
  blk : w.heap[g]? = some (.cells #[v, .int .i64 e] 30 (0, 0))
  low : base ≤ g
  row : Ow w base v l
theorem IsW.ne {w : World} {base g : Nat} {v : Value} {l : List UInt8} {e : Int} (h : IsW w base g v l e) : some g ≠ v.ownBlock := own_ne h.row h.blk (by decide)
theorem IsW.lt {w : World} {base g : Nat} {v : Value} {l : List UInt8} {e : Int} (h : IsW w base g v l e) : g < w.heap.size := blk_lt h.blk
/-- What a writer's call may turn. -/
def Wf (g : Nat) (v : Value) : Nat → Prop := fun k => k = g ∨ v.ownBlock = some k
/-- What a writer's call leaves: the same writer, l laid in it. -/
structure WPost (w : World) (base g : Nat) (v : Value) (l : List UInt8) (e : Int) (w' : World) (v' : Value) : Prop where
  is : IsW w' base g v' l e
  keeps : Keeps (Wf g v) w w'
  row : v'.ownBlock = v.ownBlock ∨ ∃ b, v'.ownBlock = some b ∧ w.heap.size ≤ b
def WEnd (w : World) (base g : Nat) (v : Value) (l : List UInt8) (e : Int) (x : Ending) (w' : World) : Prop := x = .returned (.pointer (some ⟨g, 0, none⟩)) ∧ ∃ v', WPost w base g v l e w' v'

set_option maxHeartbeats 800000 in
theorem wbyte_ok (w : World) (base g : Nat) (v : Value) (l m : List UInt8) (A : Option Addr) (n c : Nat) (hW : IsW w base g v l 0) (hR : Rd w A n m) (hbase : base ≤ w.heap.size) (hl : l.length + n ≤ 140737488355328) :
    Calls Tryd.prog 39 #[.pointer (some ⟨g, 0, none⟩), .slice A n c] w (WEnd w base g v (l ++ m) 0) := by
  have HW := Lib.hid hW
  have c0 : w.cell? ⟨g, 0, none⟩ = some v := by rw [blk_cell hW.blk]; rfl
  have c1 : w.cell? ⟨g, 1, none⟩ = some (.int .i64 0) := by rw [blk_cell hW.blk]; rfl
  clear hW
  go_enter Tryd.func39, Tryd.ntmps39
  go_wp2_with (at_builtin; refine print_append_row_of B8 0 base rfl (.tmp 18) (.tmp 19) 22 5 (.int .u8 0) 1 rfl Tryd.underlying22 Tryd.info5 rfl (by decide) B8_one v l m A n c rfl rfl HW.out.row hR (Below.refl _ _) hbase (by omega) ?_; intro v1 w1 hown hB hgr hat0; have hb1 := Lib.hid (blk_grown HW.out.blk hgr HW.out.ne); have c2 := (blk_cell hb1.out 0); have f2 := (blk_frozen hb1.out 0); simp only [List.getElem?_toArray, List.getElem?_cons_zero] at c2; have HA := Lib.hid hat0; have HO := Lib.hid hown; clear hat0 hown; obtain ⟨A1, k1, rfl⟩ := own_slice HO.out)
  go_ret
  refine ⟨rfl, _, ⟨by simpa using blk_set hb1.out 0 _, HW.out.low, own_setCell HO.out (own_ne HO.out hb1.out (by decide)) _⟩, ?_, HA.out⟩
  exact ((Keeps.refl _ _).grown hgr (fun k hk => .inl (.inr hk))).setCell (.inl (.inl rfl)) _

theorem IsW.kept {S : Nat → Prop} {w w1 : World} {base g : Nat} {v : Value} {l : List UInt8} {e : Int} (h : IsW w base g v l e) (hk : Keeps S w w1) (hg : ¬ S g) (hv : ∀ k, v.ownBlock = some k → ¬ S k) : IsW w1 base g v l e :=
  ⟨hk.heap h.blk hg, h.low, hk.ow h.row hv⟩
theorem IsW.keptNo {w w1 : World} {base g : Nat} {v : Value} {l : List UInt8} {e : Int} (h : IsW w base g v l e) (hk : Keeps No w w1) : IsW w1 base g v l e := h.kept hk (fun h => h) (fun _ _ h => h)
theorem IsW.alloc {w : World} {base g : Nat} {v : Value} {l : List UInt8} {e : Int} (h : IsW w base g v l e) (o : Obj) : IsW (w.alloc o) base g v l e := h.keptNo ((Keeps.refl _ _).alloc o)
theorem IsW.rowlt {w : World} {base g : Nat} {v : Value} {l : List UInt8} {e : Int} (h : IsW w base g v l e) (k : Nat) (hk : v.ownBlock = some k) : k < w.heap.size := own_lt h.row k hk
theorem WPost.trans {w w1 w2 : World} {base g : Nat} {v v1 v2 : Value} {l1 l2 : List UInt8} {e1 e2 : Int} (h : WPost w base g v l1 e1 w1 v1) (k : WPost w1 base g v1 l2 e2 w2 v2) : WPost w base g v l2 e2 w2 v2 := by
  refine ⟨k.is, h.keeps.trans k.keeps ?_, ?_⟩
  · rintro i (rfl | hi)
    · exact .inl (.inl rfl)
    · rcases h.row with hr | ⟨b, hb, hle⟩
      · exact .inl (.inr (hr ▸ hi))
      · rw [hb] at hi; injection hi with hi; exact .inr (by omega)
  · rcases k.row with hr | ⟨b, hb, hle⟩
    · rcases h.row with hr1 | ⟨b, hb, hle⟩
      · exact .inl (hr.trans hr1)
      · exact .inr ⟨b, hr.trans hb, hle⟩
    · exact .inr ⟨b, hb, Nat.le_trans h.keeps.size hle⟩
/-- Ahead of a call something new was laid. -/
theorem WPost.before {w w1 w2 : World} {base g : Nat} {v v2 : Value} {l : List UInt8} {e : Int} (k : Keeps No w w1) (h : WPost w1 base g v l e w2 v2) : WPost w base g v l e w2 v2 :=
  ⟨h.is, (k.mono (fun _ h => h.elim)).trans h.keeps (fun _ h => .inl h), h.row.imp id (fun ⟨b, hb, hle⟩ => ⟨b, hb, Nat.le_trans k.size hle⟩)⟩
theorem WPost.after {w w1 w2 : World} {base g : Nat} {v v1 : Value} {l : List UInt8} {e : Int} (h : WPost w base g v l e w1 v1) (k : Keeps No w1 w2) : WPost w base g v l e w2 v1 :=
  ⟨h.is.keptNo k, h.keeps.then k, h.row⟩

theorem rd_lit1 (w : World) (x : Int) (a : UInt8) (hx : x = a.toNat) : Rd (w.alloc (.cells #[.int .u8 x] 5)) (some ⟨w.heap.size, 0, none⟩) 1 [a] := by
  subst hx
  refine ⟨rfl, by omega, fun _ => ⟨_, rfl, fun j hj => ?_⟩⟩
  obtain rfl : j = 0 := by omega
  rw [add_plain, blk_cell (heap_alloc_new w _)]; rfl
theorem rd_lit2 (w : World) (x y : Int) (a b : UInt8) (hx : x = a.toNat) (hy : y = b.toNat) : Rd (w.alloc (.cells #[.int .u8 x, .int .u8 y] 5)) (some ⟨w.heap.size, 0, none⟩) 2 [a, b] := by
  subst hx; subst hy
  refine ⟨rfl, by omega, fun _ => ⟨_, rfl, fun j hj => ?_⟩⟩
  rcases (show j = 0 ∨ j = 1 by omega) with rfl | rfl <;> (rw [add_plain, blk_cell (heap_alloc_new w _)]; rfl)

def be2 (n : Nat) : List UInt8 := [UInt8.ofNat (n / 256), UInt8.ofNat n]
def be4 (n : Nat) : List UInt8 := be2 (n / 65536 % 65536) ++ be2 (n % 65536)
def be8 (n : Nat) : List UInt8 := be4 (n / 4294967296 % 4294967296) ++ be4 (n % 4294967296)

set_option maxHeartbeats 800000 in
theorem wtwo_ok (w : World) (base g : Nat) (v : Value) (l : List UInt8) (n : Int) (h0 : 0 ≤ n) (hn : n < 65536) (hW : IsW w base g v l 0) (hbase : base ≤ w.heap.size) (hl : l.length + 2 ≤ 140737488355328) :
    Calls Tryd.prog 57 #[.pointer (some ⟨g, 0, none⟩), .int .u16 n] w (WEnd w base g v (l ++ be2 n.toNat) 0) := by
  obtain ⟨n, rfl⟩ := Int.eq_ofNat_of_zero_le h0
  rw [Int.toNat_natCast]
  have HW := Lib.hid hW; clear hW
  go_enter Tryd.func57, Tryd.ntmps57
  go_wp2_with fail
  refine (wbyte_ok _ base g v l (be2 n) _ _ _ (HW.out.alloc _) (rd_lit2 _ _ _ _ _ ?_ ?_) ?_ ?_).mono ?_
  · simp; omega
  · simp
  · simp; omega
  · exact hl
  rintro e w1 ⟨rfl, v1, h1⟩
  go_wp2
  go_ret
  exact ⟨rfl, v1, h1.before ((Keeps.refl _ _).alloc _)⟩
theorem be2_len (n : Nat) : (be2 n).length = 2 := rfl
theorem be4_len (n : Nat) : (be4 n).length = 4 := rfl
theorem be8_len (n : Nat) : (be8 n).length = 8 := rfl

set_option maxHeartbeats 800000 in
theorem wfour_ok (w : World) (base g : Nat) (v : Value) (l : List UInt8) (n : Int) (h0 : 0 ≤ n) (hn : n < 4294967296) (hW : IsW w base g v l 0) (hbase : base ≤ w.heap.size) (hl : l.length + 4 ≤ 140737488355328) :
    Calls Tryd.prog 58 #[.pointer (some ⟨g, 0, none⟩), .int .u32 n] w (WEnd w base g v (l ++ be4 n.toNat) 0) := by
  obtain ⟨n, rfl⟩ := Int.eq_ofNat_of_zero_le h0
  rw [Int.toNat_natCast]
  have HW := Lib.hid hW; clear hW
  have hwr := IntKind.wrap_u16 (n : Int)
  go_enter Tryd.func58, Tryd.ntmps58
  go_wp2_with fail
  refine (wtwo_ok _ base g v l _ (by omega) (by omega) HW.out hbase (by omega)).mono ?_
  rintro e w1 ⟨rfl, v1, h1⟩
  have HH := Lib.hid h1
  have hs1 := h1.keeps.size
  clear h1
  go_wp2_with fail
  refine (wtwo_ok _ base g v1 _ _ (by omega) (by omega) HH.out.is (by omega) (by simp [be2]; omega)).mono ?_
  rintro e w2 ⟨rfl, v2, h2⟩
  go_wp2
  go_ret
  refine ⟨rfl, v2, ?_⟩
  have h3 := HH.out.trans h2
  have e1 : l ++ be2 ((n : Int) / 65536).toNat ++ be2 ((n : Int) % 65536).toNat = l ++ be4 n := by
    rw [List.append_assoc]; unfold be4
    rw [show ((n : Int) / 65536).toNat = n / 65536 % 65536 by omega, show ((n : Int) % 65536).toNat = n % 65536 by omega]
  rw [e1] at h3
  exact h3

set_option maxHeartbeats 800000 in
theorem weight_ok (w : World) (base g : Nat) (v : Value) (l : List UInt8) (n : Int) (h0 : 0 ≤ n) (hn : n < 18446744073709551616) (hW : IsW w base g v l 0) (hbase : base ≤ w.heap.size) (hl : l.length + 8 ≤ 140737488355328) :
    Calls Tryd.prog 59 #[.pointer (some ⟨g, 0, none⟩), .int .u64 n] w (WEnd w base g v (l ++ be8 n.toNat) 0) := by
  obtain ⟨n, rfl⟩ := Int.eq_ofNat_of_zero_le h0
  rw [Int.toNat_natCast]
  have HW := Lib.hid hW; clear hW
  go_enter Tryd.func59, Tryd.ntmps59
  go_wp2_with fail
  refine (wfour_ok _ base g v l _ (by omega) (by omega) HW.out hbase (by omega)).mono ?_
  rintro e w1 ⟨rfl, v1, h1⟩
  have HH := Lib.hid h1
  have hs1 := h1.keeps.size
  clear h1
  go_wp2_with fail
  refine (wfour_ok _ base g v1 _ _ (by omega) (by omega) HH.out.is (by omega) (by simp [be4_len]; omega)).mono ?_
  rintro e w2 ⟨rfl, v2, h2⟩
  go_wp2
  go_ret
  refine ⟨rfl, v2, ?_⟩
  have h3 := HH.out.trans h2
  have e1 : l ++ be4 ((n : Int) / 4294967296).toNat ++ be4 ((n : Int) % 4294967296).toNat = l ++ be8 n := by
    rw [List.append_assoc]; unfold be8
    rw [show ((n : Int) / 4294967296).toNat = n / 4294967296 % 4294967296 by omega, show ((n : Int) % 4294967296).toNat = n % 4294967296 by omega]
  rw [e1] at h3
  exact h3

set_option maxHeartbeats 800000 in
theorem wtext_ok (w : World) (base g : Nat) (v : Value) (l : List UInt8) (s : ByteArray) (hs : s.size ≤ 65535) (hW : IsW w base g v l 0) (hbase : base ≤ w.heap.size) (hl : l.length + 2 + s.size ≤ 140737488355328) :
    Calls Tryd.prog 38 #[.pointer (some ⟨g, 0, none⟩), .string s] w (WEnd w base g v (l ++ be2 s.size ++ s.data.toList) 0) := by
  have kb := fun W => print_bytes (P := Tryd.prog) 9 22 5 Tryd.underlying9 Tryd.underlying22 Tryd.underlying5 s W
  have HW := Lib.hid hW; clear hW
  go_enter Tryd.func38, Tryd.ntmps38
  go_wp2_with fail
  refine (wbyte_ok _ base g v l [] _ _ _ HW.out (Rd.nil _) hbase (by omega)).mono ?_
  rintro e w1 ⟨rfl, v1, h1⟩
  have HH := Lib.hid h1
  have hs1 := h1.keeps.size
  clear h1
  go_wp2_with fail
  refine (wtwo_ok _ base g v1 _ _ (by omega) (by omega) HH.out.is (by omega) (by simp; omega)).mono ?_
  rintro e w2 ⟨rfl, v2, h2⟩
  have HH2 := Lib.hid (HH.out.trans h2)
  have hs2 := h2.keeps.size
  clear h2
  go_wp2_with fail
  refine (wbyte_ok _ base g v2 _ s.data.toList _ _ _ (HH2.out.is.keptNo (keeps_bytes _ _ _)) (rd_bytes _ _ _ (by omega)) ?_ ?_).mono ?_
  · have := (keeps_bytes w2 5 s).size; omega
  · simp [be2_len]; omega
  rintro e w3 ⟨rfl, v3, h3⟩
  go_wp2
  go_ret
  refine ⟨rfl, v3, ?_⟩
  have h4 := HH2.out.trans (h3.before (keeps_bytes w2 5 s))
  simpa using h4
end Go.Proofs.YtieipnnpkngegaaDoor
