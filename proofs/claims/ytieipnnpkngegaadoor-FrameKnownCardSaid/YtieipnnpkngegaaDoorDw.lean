/- Decode: the program's. -/
import Derived.Test.YtieipnnpkngegaaDoorDp
import Derived.Test.YtieipnnpkngegaaDoorDr
import Derived.Test.YtieipnnpkngegaaDoorFm
import Derived.Handy
import Derived.IntWalk
namespace Go.Proofs.YtieipnnpkngegaaDoor
open Go.RowKit Go.Proofs.YtieipnnpkngegaaDoorW.PrintWords

/-- What Decode tells, in new memory. -/
def DecEnd (w : World) (l : List UInt8) (x : Ending) (w' : World) : Prop := ∃ r, x = .returned (.tuple #[.agg ((decF l).cs r), .int .u64 (decT l : Nat), .int .i64 (decE l)]) ∧ CPost w (decF l).pl w' r
theorem run_idxp (B : Nat) (W : World) (j : Nat) (hj : j < 5) :
    (Instr.index 113 (.agg #[.pointer (some ⟨B, 1, none⟩), .pointer (some ⟨B, 2, none⟩), .pointer (some ⟨B, 3, none⟩), .pointer (some ⟨B, 4, none⟩), .pointer (some ⟨B, 5, none⟩)]) (.int .i64 j)).run Tryd.prog W = .ok (.pointer (some ⟨B, j + 1, none⟩)) W := by
  rcases (show j = 0 ∨ j = 1 ∨ j = 2 ∨ j = 3 ∨ j = 4 by omega) with rfl | rfl | rfl | rfl | rfl <;>
  simp [Instr.index, run_underlying Tryd.underlying113, asIntOf, go_sem]
/-- The frame that is being read, k of its numbers read. -/
def fbl (l : List UInt8) (k : Nat) (v : Value) : Array Value :=
  #[.int .u8 (kd0 l : Nat), .int .u32 (if 0 < k then rv l 0 else 0 : Nat), .int .u32 (if 1 < k then rv l 1 else 0 : Nat), .int .u32 (if 2 < k then rv l 2 else 0 : Nat), .int .u32 (if 3 < k then rv l 3 else 0 : Nat), .int .u32 (if 4 < k then rv l 4 else 0 : Nat), v]
theorem fbl_set (l : List UInt8) (k : Nat) (v : Value) (h : k < 5) : (fbl l k v).setIfInBounds (k + 1) (.int .u32 (rv l k : Nat)) = fbl l (k + 1) v := by
  rcases (show k = 0 ∨ k = 1 ∨ k = 2 ∨ k = 3 ∨ k = 4 by omega) with rfl | rfl | rfl | rfl | rfl <;> simp [fbl]
theorem fbl_at (l : List UInt8) (k : Nat) (v : Value) (h : k < 5) : (fbl l k v)[k + 1]? = some (.int .u32 (0 : Nat)) := by
  rcases (show k = 0 ∨ k = 1 ∨ k = 2 ∨ k = 3 ∨ k = 4 by omega) with rfl | rfl | rfl | rfl | rfl <;> simp [fbl]
theorem rd5_len (l : List UInt8) : ∀ k, (rd5 l k).l.length ≤ l.length
  | 0 => takeS_len _ _
  | k + 1 => Nat.le_trans (takeS_len _ _) (rd5_len l k)

/-- A frame stored whole, cell by cell. -/
def stF (w : World) (b : Nat) (v0 v1 v2 v3 v4 v5 v6 : Value) : World :=
  ((((((w.setCell ⟨b, 0, none⟩ v0).setCell ⟨b, 1, none⟩ v1).setCell ⟨b, 2, none⟩ v2).setCell ⟨b, 3, none⟩ v3).setCell ⟨b, 4, none⟩ v4).setCell ⟨b, 5, none⟩ v5).setCell ⟨b, 6, none⟩ v6
theorem stF_heap {w : World} {b : Nat} {u0 u1 u2 u3 u4 u5 u6 : Value} {t : TypeId} (h : w.heap[b]? = some (.cells #[u0, u1, u2, u3, u4, u5, u6] t (0, 0))) (v0 v1 v2 v3 v4 v5 v6 : Value) :
    (stF w b v0 v1 v2 v3 v4 v5 v6).heap[b]? = some (.cells #[v0, v1, v2, v3, v4, v5, v6] t (0, 0)) := by
  unfold stF
  simpa using blk_set (blk_set (blk_set (blk_set (blk_set (blk_set (blk_set h 0 v0) 1 v1) 2 v2) 3 v3) 4 v4) 5 v5) 6 v6
theorem stF_keeps (w : World) (b : Nat) (v0 v1 v2 v3 v4 v5 v6 : Value) : Keeps (fun q => q = b) w (stF w b v0 v1 v2 v3 v4 v5 v6) := by
  exact (((((((Keeps.refl (fun q => q = b) w).setCell (p := ⟨b, 0, none⟩) (.inl rfl) v0).setCell (p := ⟨b, 1, none⟩) (.inl rfl) v1).setCell (p := ⟨b, 2, none⟩) (.inl rfl) v2).setCell (p := ⟨b, 3, none⟩) (.inl rfl) v3).setCell (p := ⟨b, 4, none⟩) (.inl rfl) v4).setCell (p := ⟨b, 5, none⟩) (.inl rfl) v5).setCell (p := ⟨b, 6, none⟩) (.inl rfl) v6
theorem beq_int (a b : Nat) : ((a : Int) == (b : Int)) = decide (a = b) := by
  by_cases h : a = b
  · subst h; simp
  · simp [h]; omega
set_option linter.unusedSimpArgs false in
set_option maxRecDepth 100000 in
set_option maxHeartbeats 12800000 in
theorem decode_any (w : World) (A : Option Addr) (n c : Nat) (l : List UInt8) (hR : Rd w A n l) (hc : n ≤ c) (hn : n ≤ 140737488355328) (hT : MayT w) (hTab : Tabb w) :
    Calls Tryd.prog 53 #[.slice A n c] w (DecEnd w l) := by
  have hln := hR.len
  have HR := Lib.hid hR
  have HT := Lib.hid hT
  have HTB := Lib.hid hTab
  have HLN := Lib.hid (fun k => rd5_len l k)
  clear hR hT hTab
  go_enter Tryd.func53, Tryd.ntmps53
  have K0 := Lib.hid ((Keeps.refl No w).alloc (.cells #[.int .u8 0, .int .u32 0, .int .u32 0, .int .u32 0, .int .u32 0, .int .u32 0, .slice none 0 0] 68))
  have hnew := heap_alloc_new w (.cells #[.int .u8 0, .int .u32 0, .int .u32 0, .int .u32 0, .int .u32 0, .int .u32 0, .slice none 0 0] 68)
  have s0 : (w.alloc (.cells #[.int .u8 0, .int .u32 0, .int .u32 0, .int .u32 0, .int .u32 0, .int .u32 0, .slice none 0 0] 68)).heap.size = w.heap.size + 1 := by simp
  go_wp2_with fail
  generalize w.alloc (.cells #[.int .u8 0, .int .u32 0, .int .u32 0, .int .u32 0, .int .u32 0, .int .u32 0, .slice none 0 0] 68) = w0 at *
  refine (xnew_any w0 A n c l (K0.out.rdNo HR.out) hn).mono ?_
  rintro e w1 ⟨g, L, rfl, hI1, hg1, hL1, hk1⟩
  have K1 := Lib.hid (K0.out.then hk1)
  have HI1 := Lib.hid hI1
  have HZ1 := Lib.hid (hk1.heap hnew (fun h => h))
  have hlt1 := hI1.lt
  clear hI1 hk1 hnew
  go_wp2_with fail
  refine (xrbyte_any w1 g ⟨l, false⟩ HI1.out (by simp only; omega)).mono ?_
  rintro e w2 ⟨rfl, hp2⟩
  have K2 := Lib.hid (show Keeps No w w2 from K1.out.trans hp2.keeps (fun i hi => .inr (by have hi : i = g := hi; omega)))
  have HI2 := Lib.hid (show IsX L w2 g (rd5 l 0) from hp2.is)
  have HZ2 := Lib.hid (hp2.keeps.heap HZ1.out (fun h => by have h : w.heap.size = g := h; omega))
  have s2 := hp2.keeps.size
  clear hp2
  have hkd : natBE (takeO ⟨l, false⟩ 1) = kd0 l := rfl
  rw [hkd]
  clear hkd
  have e0 : fbl l 0 (.slice none 0 0) = #[.int .u8 (kd0 l : Nat), .int .u32 0, .int .u32 0, .int .u32 0, .int .u32 0, .int .u32 0, .slice none 0 0] := by simp [fbl]
  have hnb := heap_alloc_new w2 (.cells (fbl l 0 (.slice none 0 0)) 68)
  have hkb := (Keeps.refl No w2).alloc (.cells (fbl l 0 (.slice none 0 0)) 68)
  rw [e0] at hkb
  rw [e0] at hnb
  have HNB := Lib.hid hnb
  have HKB := Lib.hid hkb
  have E0 := Lib.hid e0
  clear hnb hkb e0
  go_wp2
  go_loopw [22] (fun iv wr => ∃ k : Nat, k ≤ 5 ∧ iv = .int .i64 k ∧ IsX L wr g (rd5 l k) ∧ wr.heap[w2.heap.size]? = some (.cells (fbl l k (.slice none 0 0)) 68 (0, 0)) ∧ wr.heap[w.heap.size]? = some (.cells #[.int .u8 0, .int .u32 0, .int .u32 0, .int .u32 0, .int .u32 0, .int .u32 0, .slice none 0 0] 68 (0, 0)) ∧ Keeps No w wr) (fun iv _ => 5 - (intOf iv).toNat)
  case atStart => exact ⟨0, by omega, rfl, HI2.out.keptNo HKB.out, by rw [E0.out]; exact HNB.out, HKB.out.heap HZ2.out (fun h => h), K2.out.then HKB.out⟩
  case round =>
    obtain ⟨k, hk, rfl, hi, hb, hz, hkr⟩ := hrel
    have HI := Lib.hid hi
    have HB := Lib.hid hb
    have HZ := Lib.hid hz
    have KR := Lib.hid hkr
    have hlk := HLN.out k
    have hlB := blk_lt hb
    clear hi hb hz hkr
    by_cases hlt : k < 5
    · have hix := fun W => run_idxp w2.heap.size W k hlt
      go_wp2_with fail
      refine (xrfour_any wr g (rd5 l k) HI.out (by omega)).mono ?_
      rintro e w3 ⟨rfl, hp⟩
      have hI3 : IsX L w3 g (rd5 l (k + 1)) := hp.is
      have hgB : ¬ w2.heap.size = g := by omega
      have hb3 := hp.keeps.heap HB.out hgB
      have e3 : w3.cell? ⟨w2.heap.size, k + 1, none⟩ = some (.int .u32 (0 : Nat)) := by rw [blk_cell hb3]; exact fbl_at l k _ hlt
      have f3 : w3.frozen? ⟨w2.heap.size, k + 1, none⟩ = false := blk_frozen hb3 (k + 1)
      have HP := Lib.hid hp.keeps
      have HI3 := Lib.hid hI3
      have HB3 := Lib.hid hb3
      clear hp hI3 hb3
      have hv : natBE (takeO (rd5 l k) 4) = rv l k := rfl
      rw [hv]
      clear hv
      go_wp2
      go_roundw
      case rel =>
        have hst := fun X => (Keeps.refl (fun q => q = w2.heap.size) w3).setCell (p := ⟨w2.heap.size, k + 1, none⟩) (.inl rfl) X
        refine ⟨k + 1, by omega, by go_num, HI3.out.kept (hst _) (fun h => hgB h.symm) (fun q hq => by subst hq; omega), ?_, ?_, ?_⟩
        · rw [← fbl_set l k _ hlt]
          exact blk_set HB3.out _ _
        · exact (hst _).heap (HP.out.heap HZ.out (fun h => by have h : w.heap.size = g := h; omega)) (fun h => by have h : w.heap.size = w2.heap.size := h; omega)
        · exact (KR.out.trans HP.out (fun i hi => .inr (by have hi : i = g := hi; omega))).trans (hst _) (fun i hi => .inr (by have hi : i = w2.heap.size := hi; omega))
      case measure => simp [intOf]; omega
    · obtain rfl : k = 5 := by omega
      go_wp2_with fail
      refine (xrtext_any wr g (rd5 l 5) HI.out (by omega)).mono ?_
      rintro e w3 ⟨rfl, hp⟩
      have HI3 := Lib.hid (show IsX L w3 g (s7 l) from hp.is)
      have hgB : ¬ w2.heap.size = g := by omega
      have hgZ : ¬ w.heap.size = g := by omega
      have HB3 := Lib.hid (hp.keeps.heap HB.out hgB)
      have HZ3 := Lib.hid (hp.keeps.heap HZ.out hgZ)
      have K3 := Lib.hid (show Keeps No w w3 from KR.out.trans hp.keeps (fun i hi => .inr (by have hi : i = g := hi; omega)))
      have s3 := hp.keeps.size
      have hto : (textO (rd5 l 5)).length ≤ l.length := Nat.le_trans (takeO_le _ _) (Nat.le_trans (takeS_len _ _) hlk)
      have HDK := Lib.hid (decOk l)
      have hl7 : (s7 l).l.length ≤ l.length := Nat.le_trans (Nat.le_trans (takeS_len _ _) (takeS_len _ _)) hlk
      have hl8 : (s8 l).l.length ≤ l.length := Nat.le_trans (takeS_len _ _) hl7
      clear hp
      have HTO := Lib.hid (show ∃ t, t = textO (rd5 l 5) from ⟨_, rfl⟩)
      generalize hTO : textO (rd5 l 5) = tO at *
      have HTT := Lib.hid hTO
      clear hTO
      have kb := fun W => print_bytes (P := Tryd.prog) 9 22 5 Tryd.underlying9 Tryd.underlying22 Tryd.underlying5 ⟨tO.toArray⟩ W
      have hsz : ByteArray.size ⟨tO.toArray⟩ = tO.length := rfl
      go_wp2_with fail
      refine (sclone_any _ _ _ _ tO (by exact rd_bytes w3 5 ⟨tO.toArray⟩ (by rw [hsz]; omega)) (by omega)).mono ?_
      rintro e w4 ⟨r, rfl, h4⟩
      obtain ⟨A6, c6, rfl, _, _⟩ := h4.row.rd
      have kb4 := (keeps_bytes w3 5 ⟨tO.toArray⟩).then h4.keeps
      have K4 := Lib.hid (K3.out.then kb4)
      have hb4 := kb4.heap HB3.out (fun h => h)
      have hz4 := kb4.heap HZ3.out (fun h => h)
      have e4 : w4.cell? ⟨w2.heap.size, 6, none⟩ = some (.slice none 0 0) := by rw [blk_cell hb4]; rfl
      have f4 : w4.frozen? ⟨w2.heap.size, 6, none⟩ = false := blk_frozen hb4 6
      have hkb := (keeps_bytes w3 5 ⟨tO.toArray⟩).size
      have hst := (Keeps.refl (fun q => q = w2.heap.size) w4).setCell (p := ⟨w2.heap.size, 6, none⟩) (.inl rfl) (.slice A6 tO.length c6)
      have HO5 := Lib.hid (show Ow (w4.setCell ⟨w2.heap.size, 6, none⟩ (.slice A6 tO.length c6)) w3.heap.size (.slice A6 tO.length c6) tO from own_less (own_setCell h4.row (fun e => by have := own_base h4.row _ e.symm; simp only at this; omega) _) (by omega))
      have HI5 := Lib.hid ((HI3.out.keptNo kb4).kept hst (fun h => hgB h.symm) (fun q hq => by subst hq; omega))
      have HB5 := Lib.hid (blk_set hb4 6 (.slice A6 tO.length c6))
      have HZ5 := Lib.hid (hst.heap hz4 (fun h => by have h : w.heap.size = w2.heap.size := h; omega))
      have K5 := Lib.hid (show Keeps No w (w4.setCell ⟨w2.heap.size, 6, none⟩ (.slice A6 tO.length c6)) from K4.out.trans hst (fun i hi => .inr (by have hi : i = w2.heap.size := hi; omega)))
      clear hst hb4 hz4 kb4 h4 kb
      go_wp2_with fail
      generalize w4.setCell ⟨w2.heap.size, 6, none⟩ (.slice A6 tO.length c6) = w5 at *
      clear e4 f4
      refine (xreight_any w5 g (s7 l) HI5.out (by omega)).mono ?_
      rintro e w6 ⟨rfl, hp6⟩
      have HI6 := Lib.hid (show IsX L w6 g (s8 l) from hp6.is)
      have HO6 := Lib.hid (hp6.keeps.ow HO5.out (fun q hq h => by have := own_base HO5.out q hq; have h : q = g := h; omega))
      have HB6 := Lib.hid (hp6.keeps.heap HB5.out hgB)
      have HZ6 := Lib.hid (hp6.keeps.heap HZ5.out hgZ)
      have K6 := Lib.hid (show Keeps No w w6 from K5.out.trans hp6.keeps (fun i hi => .inr (by have hi : i = g := hi; omega)))
      have s6 := hp6.keeps.size
      clear hp6
      generalize hv8 : natBE (takeO (s7 l) 8) = v8 at *
      have HV8 := Lib.hid hv8
      clear hv8
      go_wp2_with fail
      refine (xrfour_any w6 g (s8 l) HI6.out (by omega)).mono ?_
      rintro e w7 ⟨rfl, hp7⟩
      have HI7 := Lib.hid (show IsX L w7 g (s9 l) from hp7.is)
      have HO7 := Lib.hid (hp7.keeps.ow HO6.out (fun q hq h => by have := own_base HO6.out q hq; have h : q = g := h; omega))
      have HB7 := Lib.hid (hp7.keeps.heap HB6.out hgB)
      have HZ7 := Lib.hid (hp7.keeps.heap HZ6.out hgZ)
      have K7 := Lib.hid (show Keeps No w w7 from K6.out.trans hp7.keeps (fun i hi => .inr (by have hi : i = g := hi; omega)))
      have s7' := hp7.keeps.size
      clear hp7
      generalize hv9 : natBE (takeO (s8 l) 4) = v9 at *
      have HV9 := Lib.hid hv9
      clear hv9
      go_wp2_with fail
      refine (xrerr_any w7 g (s9 l) HI7.out).mono ?_
      rintro e w8 ⟨rfl, rfl⟩
      have z0 : w7.cell? ⟨w.heap.size, 0, none⟩ = some (.int .u8 0) := by rw [blk_cell HZ7.out]; rfl
      have z1 : w7.cell? ⟨w.heap.size, 1, none⟩ = some (.int .u32 0) := by rw [blk_cell HZ7.out]; rfl
      have z2 : w7.cell? ⟨w.heap.size, 2, none⟩ = some (.int .u32 0) := by rw [blk_cell HZ7.out]; rfl
      have z3 : w7.cell? ⟨w.heap.size, 3, none⟩ = some (.int .u32 0) := by rw [blk_cell HZ7.out]; rfl
      have z4 : w7.cell? ⟨w.heap.size, 4, none⟩ = some (.int .u32 0) := by rw [blk_cell HZ7.out]; rfl
      have z5 : w7.cell? ⟨w.heap.size, 5, none⟩ = some (.int .u32 0) := by rw [blk_cell HZ7.out]; rfl
      have z6 : w7.cell? ⟨w.heap.size, 6, none⟩ = some (.slice none 0 0) := by rw [blk_cell HZ7.out]; rfl
      have y0 : w7.frozen? ⟨w.heap.size, 0, none⟩ = false := blk_frozen HZ7.out 0
      have y1 : w7.frozen? ⟨w.heap.size, 1, none⟩ = false := blk_frozen HZ7.out 1
      have y2 : w7.frozen? ⟨w.heap.size, 2, none⟩ = false := blk_frozen HZ7.out 2
      have y3 : w7.frozen? ⟨w.heap.size, 3, none⟩ = false := blk_frozen HZ7.out 3
      have y4 : w7.frozen? ⟨w.heap.size, 4, none⟩ = false := blk_frozen HZ7.out 4
      have y5 : w7.frozen? ⟨w.heap.size, 5, none⟩ = false := blk_frozen HZ7.out 5
      have y6 : w7.frozen? ⟨w.heap.size, 6, none⟩ = false := blk_frozen HZ7.out 6
      cases hsh : (s9 l).short with
      | true =>
        have HE := Lib.hid (decE_short l hsh)
        have hee : errOf (s9 l) = 4 := by unfold errOf; rw [hsh]; rfl
        rw [hee]
        clear hsh hee
        have hzz := stF_heap HZ7.out (.int .u8 0) (.int .u32 0) (.int .u32 0) (.int .u32 0) (.int .u32 0) (.int .u32 0) (.slice none 0 0)
        have HKZ := Lib.hid (show Keeps No w (stF w7 w.heap.size (.int .u8 0) (.int .u32 0) (.int .u32 0) (.int .u32 0) (.int .u32 0) (.int .u32 0) (.slice none 0 0)) from K7.out.trans (stF_keeps _ _ _ _ _ _ _ _ _) (fun i hi => .inr (by have hi : i = w.heap.size := hi; omega)))
        have HZZ := Lib.hid hzz
        clear hzz
        go_wp2
        show bodyPost _ _ _ _ _ (stF w7 w.heap.size (.int .u8 0) (.int .u32 0) (.int .u32 0) (.int .u32 0) (.int .u32 0) (.int .u32 0) (.slice none 0 0))
        generalize stF w7 w.heap.size (.int .u8 0) (.int .u32 0) (.int .u32 0) (.int .u32 0) (.int .u32 0) (.int .u32 0) (.slice none 0 0) = wz at *
        have q0 : wz.cell? ⟨w.heap.size, 0, none⟩ = some (.int .u8 0) := by rw [blk_cell HZZ.out]; rfl
        have q1 : wz.cell? ⟨w.heap.size, 1, none⟩ = some (.int .u32 0) := by rw [blk_cell HZZ.out]; rfl
        have q2 : wz.cell? ⟨w.heap.size, 2, none⟩ = some (.int .u32 0) := by rw [blk_cell HZZ.out]; rfl
        have q3 : wz.cell? ⟨w.heap.size, 3, none⟩ = some (.int .u32 0) := by rw [blk_cell HZZ.out]; rfl
        have q4 : wz.cell? ⟨w.heap.size, 4, none⟩ = some (.int .u32 0) := by rw [blk_cell HZZ.out]; rfl
        have q5 : wz.cell? ⟨w.heap.size, 5, none⟩ = some (.int .u32 0) := by rw [blk_cell HZZ.out]; rfl
        have q6 : wz.cell? ⟨w.heap.size, 6, none⟩ = some (.slice none 0 0) := by rw [blk_cell HZZ.out]; rfl
        refine bodyPost_ret (v := .tuple #[.agg #[.int .u8 0, .int .u32 0, .int .u32 0, .int .u32 0, .int .u32 0, .int .u32 0, .slice none 0 0], .int .u64 0, .int .i64 4]) (by simp [results, Tryd.results53, go_sem, q0, q1, q2, q3, q4, q5, q6]) rfl ?_
        have hne : decE l ≠ 0 := by rw [HE.out]; decide
        exact ⟨.slice none 0 0, by rw [decF_bad hne, decT_bad hne, HE.out]; rfl, by rw [decF_bad hne]; exact Ow.nil _ _, HKZ.out⟩
      | false =>
        have hle := s9_ok l hsh
        have hee : errOf (s9 l) = 0 := by unfold errOf; rw [hsh]; rfl
        rw [hee]
        have HD := Lib.hid (HDK.out hle)
        clear hsh hee
        go_wp2_with fail
        refine (xrleft_any w7 g (s9 l) HI7.out).mono ?_
        rintro e w8 ⟨rfl, rfl⟩
        rw [HD.out.last]
        simp only [List.length_drop]
        by_cases hgt : 35 + decN l < l.length
        · have HE := Lib.hid (show decE l = 5 from by unfold decE; rw [if_neg (by omega), if_pos hgt])
          have hm : 0 < l.length - (35 + decN l) := by omega
          generalize l.length - (35 + decN l) = m at *
          have hzz := stF_heap HZ7.out (.int .u8 0) (.int .u32 0) (.int .u32 0) (.int .u32 0) (.int .u32 0) (.int .u32 0) (.slice none 0 0)
          have HKZ := Lib.hid (show Keeps No w (stF w7 w.heap.size (.int .u8 0) (.int .u32 0) (.int .u32 0) (.int .u32 0) (.int .u32 0) (.int .u32 0) (.slice none 0 0)) from K7.out.trans (stF_keeps _ _ _ _ _ _ _ _ _) (fun i hi => .inr (by have hi : i = w.heap.size := hi; omega)))
          have HZZ := Lib.hid hzz
          clear hzz
          go_wp2
          show bodyPost _ _ _ _ _ (stF w7 w.heap.size (.int .u8 0) (.int .u32 0) (.int .u32 0) (.int .u32 0) (.int .u32 0) (.int .u32 0) (.slice none 0 0))
          generalize stF w7 w.heap.size (.int .u8 0) (.int .u32 0) (.int .u32 0) (.int .u32 0) (.int .u32 0) (.int .u32 0) (.slice none 0 0) = wz at *
          have q0 : wz.cell? ⟨w.heap.size, 0, none⟩ = some (.int .u8 0) := by rw [blk_cell HZZ.out]; rfl
          have q1 : wz.cell? ⟨w.heap.size, 1, none⟩ = some (.int .u32 0) := by rw [blk_cell HZZ.out]; rfl
          have q2 : wz.cell? ⟨w.heap.size, 2, none⟩ = some (.int .u32 0) := by rw [blk_cell HZZ.out]; rfl
          have q3 : wz.cell? ⟨w.heap.size, 3, none⟩ = some (.int .u32 0) := by rw [blk_cell HZZ.out]; rfl
          have q4 : wz.cell? ⟨w.heap.size, 4, none⟩ = some (.int .u32 0) := by rw [blk_cell HZZ.out]; rfl
          have q5 : wz.cell? ⟨w.heap.size, 5, none⟩ = some (.int .u32 0) := by rw [blk_cell HZZ.out]; rfl
          have q6 : wz.cell? ⟨w.heap.size, 6, none⟩ = some (.slice none 0 0) := by rw [blk_cell HZZ.out]; rfl
          refine bodyPost_ret (v := .tuple #[.agg #[.int .u8 0, .int .u32 0, .int .u32 0, .int .u32 0, .int .u32 0, .int .u32 0, .slice none 0 0], .int .u64 0, .int .i64 5]) (by simp [results, Tryd.results53, go_sem, q0, q1, q2, q3, q4, q5, q6]) rfl ?_
          have hne : decE l ≠ 0 := by rw [HE.out]; decide
          exact ⟨.slice none 0 0, by rw [decF_bad hne, decT_bad hne, HE.out]; rfl, by rw [decF_bad hne]; exact Ow.nil _ _, HKZ.out⟩
        · have hE1 : decE l = if natBE (l.drop (31 + decN l)) ≠ crcOf (l.take (31 + decN l)) then 11 else if mayB (frmOf l) = true then 0 else 5 := by unfold decE; rw [if_neg (by omega), if_neg hgt]
          have HE1 := Lib.hid hE1
          have hv9 : v9 = natBE (l.drop (31 + decN l)) := by rw [← HV9.out, HD.out.sum, List.take_of_length_le (by simp; omega)]
          have HV := Lib.hid hv9
          have hm0 : l.length - (35 + decN l) = 0 := by omega
          rw [hm0]
          have HRT := Lib.hid (K7.out.rdNo (HR.out.take (31 + decN l) (by omega)))
          have hn35 : n = 35 + decN l := by omega
          clear hE1 hv9 hm0
          have HN := Lib.hid hn35
          generalize hNN : decN l = N at *
          have HNN := Lib.hid hNN
          clear hNN hn35
          have hsub : ((n : Int) - 4) = ((31 + N : Nat) : Int) := by omega
          have hsw : IntKind.i64.wrap ((n : Int) - 4) = ((31 + N : Nat) : Int) := by rw [hsub]; exact IntWalk.i64_in _ (by omega)
          go_wp2_with fail
          refine (crc_any w7 A (31 + N) _ _ HRT.out (HTB.out.keptNo K7.out)).mono ?_
          rintro e w8 ⟨rfl, rfl⟩
          have hkl : crcOf (l.take (31 + N)) < 4294967296 := CrcPlain.lt_xor (k := 32) (by decide) (regOf_lt _)
          generalize hcrc : crcOf (l.take (31 + N)) = k at *
          have HCRC := Lib.hid hcrc
          clear hcrc hsub hsw
          by_cases hk : v9 = k
          · subst hk
            have b0 : w7.cell? ⟨w2.heap.size, 0, none⟩ = some (.int .u8 (kd0 l : Nat)) := by rw [blk_cell HB7.out]; simp [fbl]
            have b1 : w7.cell? ⟨w2.heap.size, 1, none⟩ = some (.int .u32 (rv l 0 : Nat)) := by rw [blk_cell HB7.out]; simp [fbl]
            have b2 : w7.cell? ⟨w2.heap.size, 2, none⟩ = some (.int .u32 (rv l 1 : Nat)) := by rw [blk_cell HB7.out]; simp [fbl]
            have b3 : w7.cell? ⟨w2.heap.size, 3, none⟩ = some (.int .u32 (rv l 2 : Nat)) := by rw [blk_cell HB7.out]; simp [fbl]
            have b4 : w7.cell? ⟨w2.heap.size, 4, none⟩ = some (.int .u32 (rv l 3 : Nat)) := by rw [blk_cell HB7.out]; simp [fbl]
            have b5 : w7.cell? ⟨w2.heap.size, 5, none⟩ = some (.int .u32 (rv l 4 : Nat)) := by rw [blk_cell HB7.out]; simp [fbl]
            have b6 : w7.cell? ⟨w2.heap.size, 6, none⟩ = some (.slice A6 tO.length c6) := by rw [blk_cell HB7.out]; simp [fbl]
            have hfrm : (⟨kd0 l, rv l 0, rv l 1, rv l 2, rv l 3, rv l 4, tO⟩ : Frm) = frmOf l := by rw [← HTT.out]; exact HD.out.frm
            have HFR := Lib.hid hfrm
            have HOKF := Lib.hid (show Frm.Ok ⟨kd0 l, rv l 0, rv l 1, rv l 2, rv l 3, rv l 4, tO⟩ from ⟨natBE_of _ 1, natBE_of _ 4, natBE_of _ 4, natBE_of _ 4, natBE_of _ 4, natBE_of _ 4⟩)
            clear hfrm
            go_wp2_with fail
            refine (may_any w7 ⟨kd0 l, rv l 0, rv l 1, rv l 2, rv l 3, rv l 4, tO⟩ HOKF.out A6 c6 (HT.out.keptNo K7.out)).mono ?_
            rintro e w9 ⟨rfl, h9⟩
            rw [HFR.out]
            have HZ9 := Lib.hid (h9.heap HZ7.out (fun h => h))
            have HB9 := Lib.hid (h9.heap HB7.out (fun h => h))
            have HO9 := Lib.hid (h9.owNo HO7.out)
            have K9 := Lib.hid (K7.out.then h9)
            clear h9 b0 b1 b2 b3 b4 b5 b6 z0 z1 z2 z3 z4 z5 z6 y0 y1 y2 y3 y4 y5 y6
            have z0 : w9.cell? ⟨w.heap.size, 0, none⟩ = some (.int .u8 0) := by rw [blk_cell HZ9.out]; rfl
            have z1 : w9.cell? ⟨w.heap.size, 1, none⟩ = some (.int .u32 0) := by rw [blk_cell HZ9.out]; rfl
            have z2 : w9.cell? ⟨w.heap.size, 2, none⟩ = some (.int .u32 0) := by rw [blk_cell HZ9.out]; rfl
            have z3 : w9.cell? ⟨w.heap.size, 3, none⟩ = some (.int .u32 0) := by rw [blk_cell HZ9.out]; rfl
            have z4 : w9.cell? ⟨w.heap.size, 4, none⟩ = some (.int .u32 0) := by rw [blk_cell HZ9.out]; rfl
            have z5 : w9.cell? ⟨w.heap.size, 5, none⟩ = some (.int .u32 0) := by rw [blk_cell HZ9.out]; rfl
            have z6 : w9.cell? ⟨w.heap.size, 6, none⟩ = some (.slice none 0 0) := by rw [blk_cell HZ9.out]; rfl
            have y0 : w9.frozen? ⟨w.heap.size, 0, none⟩ = false := blk_frozen HZ9.out 0
            have y1 : w9.frozen? ⟨w.heap.size, 1, none⟩ = false := blk_frozen HZ9.out 1
            have y2 : w9.frozen? ⟨w.heap.size, 2, none⟩ = false := blk_frozen HZ9.out 2
            have y3 : w9.frozen? ⟨w.heap.size, 3, none⟩ = false := blk_frozen HZ9.out 3
            have y4 : w9.frozen? ⟨w.heap.size, 4, none⟩ = false := blk_frozen HZ9.out 4
            have y5 : w9.frozen? ⟨w.heap.size, 5, none⟩ = false := blk_frozen HZ9.out 5
            have y6 : w9.frozen? ⟨w.heap.size, 6, none⟩ = false := blk_frozen HZ9.out 6
            cases hmb : mayB (frmOf l) with
            | false =>
              have HE := Lib.hid (show decE l = 5 from by rw [HE1.out, if_neg (by rw [← HV.out]; simp), if_neg (by rw [hmb]; decide)])
              clear hmb
              have hzz := stF_heap HZ9.out (.int .u8 0) (.int .u32 0) (.int .u32 0) (.int .u32 0) (.int .u32 0) (.int .u32 0) (.slice none 0 0)
              have HKZ := Lib.hid (show Keeps No w (stF w9 w.heap.size (.int .u8 0) (.int .u32 0) (.int .u32 0) (.int .u32 0) (.int .u32 0) (.int .u32 0) (.slice none 0 0)) from K9.out.trans (stF_keeps _ _ _ _ _ _ _ _ _) (fun i hi => .inr (by have hi : i = w.heap.size := hi; omega)))
              have HZZ := Lib.hid hzz
              clear hzz
              go_wp2
              show bodyPost _ _ _ _ _ (stF w9 w.heap.size (.int .u8 0) (.int .u32 0) (.int .u32 0) (.int .u32 0) (.int .u32 0) (.int .u32 0) (.slice none 0 0))
              generalize stF w9 w.heap.size (.int .u8 0) (.int .u32 0) (.int .u32 0) (.int .u32 0) (.int .u32 0) (.int .u32 0) (.slice none 0 0) = wz at *
              have q0 : wz.cell? ⟨w.heap.size, 0, none⟩ = some (.int .u8 0) := by rw [blk_cell HZZ.out]; rfl
              have q1 : wz.cell? ⟨w.heap.size, 1, none⟩ = some (.int .u32 0) := by rw [blk_cell HZZ.out]; rfl
              have q2 : wz.cell? ⟨w.heap.size, 2, none⟩ = some (.int .u32 0) := by rw [blk_cell HZZ.out]; rfl
              have q3 : wz.cell? ⟨w.heap.size, 3, none⟩ = some (.int .u32 0) := by rw [blk_cell HZZ.out]; rfl
              have q4 : wz.cell? ⟨w.heap.size, 4, none⟩ = some (.int .u32 0) := by rw [blk_cell HZZ.out]; rfl
              have q5 : wz.cell? ⟨w.heap.size, 5, none⟩ = some (.int .u32 0) := by rw [blk_cell HZZ.out]; rfl
              have q6 : wz.cell? ⟨w.heap.size, 6, none⟩ = some (.slice none 0 0) := by rw [blk_cell HZZ.out]; rfl
              refine bodyPost_ret (v := .tuple #[.agg #[.int .u8 0, .int .u32 0, .int .u32 0, .int .u32 0, .int .u32 0, .int .u32 0, .slice none 0 0], .int .u64 0, .int .i64 5]) (by simp [results, Tryd.results53, go_sem, q0, q1, q2, q3, q4, q5, q6]) rfl ?_
              have hne : decE l ≠ 0 := by rw [HE.out]; decide
              exact ⟨.slice none 0 0, by rw [decF_bad hne, decT_bad hne, HE.out]; rfl, by rw [decF_bad hne]; exact Ow.nil _ _, HKZ.out⟩
            | true =>
              have HE := Lib.hid (show decE l = 0 from by rw [HE1.out, if_neg (by rw [← HV.out]; simp), if_pos hmb])
              clear hmb
              have b0 : w9.cell? ⟨w2.heap.size, 0, none⟩ = some (.int .u8 (kd0 l : Nat)) := by rw [blk_cell HB9.out]; simp [fbl]
              have b1 : w9.cell? ⟨w2.heap.size, 1, none⟩ = some (.int .u32 (rv l 0 : Nat)) := by rw [blk_cell HB9.out]; simp [fbl]
              have b2 : w9.cell? ⟨w2.heap.size, 2, none⟩ = some (.int .u32 (rv l 1 : Nat)) := by rw [blk_cell HB9.out]; simp [fbl]
              have b3 : w9.cell? ⟨w2.heap.size, 3, none⟩ = some (.int .u32 (rv l 2 : Nat)) := by rw [blk_cell HB9.out]; simp [fbl]
              have b4 : w9.cell? ⟨w2.heap.size, 4, none⟩ = some (.int .u32 (rv l 3 : Nat)) := by rw [blk_cell HB9.out]; simp [fbl]
              have b5 : w9.cell? ⟨w2.heap.size, 5, none⟩ = some (.int .u32 (rv l 4 : Nat)) := by rw [blk_cell HB9.out]; simp [fbl]
              have b6 : w9.cell? ⟨w2.heap.size, 6, none⟩ = some (.slice A6 tO.length c6) := by rw [blk_cell HB9.out]; simp [fbl]
              have hzz := stF_heap HZ9.out (.int .u8 (kd0 l : Nat)) (.int .u32 (rv l 0 : Nat)) (.int .u32 (rv l 1 : Nat)) (.int .u32 (rv l 2 : Nat)) (.int .u32 (rv l 3 : Nat)) (.int .u32 (rv l 4 : Nat)) (.slice A6 tO.length c6)
              have HKZ := Lib.hid (show Keeps No w (stF w9 w.heap.size (.int .u8 (kd0 l : Nat)) (.int .u32 (rv l 0 : Nat)) (.int .u32 (rv l 1 : Nat)) (.int .u32 (rv l 2 : Nat)) (.int .u32 (rv l 3 : Nat)) (.int .u32 (rv l 4 : Nat)) (.slice A6 tO.length c6)) from K9.out.trans (stF_keeps _ _ _ _ _ _ _ _ _) (fun i hi => .inr (by have hi : i = w.heap.size := hi; omega)))
              have HZZ := Lib.hid hzz
              have HOZ := Lib.hid ((stF_keeps w9 w.heap.size (.int .u8 (kd0 l : Nat)) (.int .u32 (rv l 0 : Nat)) (.int .u32 (rv l 1 : Nat)) (.int .u32 (rv l 2 : Nat)) (.int .u32 (rv l 3 : Nat)) (.int .u32 (rv l 4 : Nat)) (.slice A6 tO.length c6)).ow HO9.out (fun q hq h => by have := own_base HO9.out q hq; have h : q = w.heap.size := h; omega))
              clear hzz
              go_wp2
              show bodyPost _ _ _ _ _ (stF w9 w.heap.size (.int .u8 (kd0 l : Nat)) (.int .u32 (rv l 0 : Nat)) (.int .u32 (rv l 1 : Nat)) (.int .u32 (rv l 2 : Nat)) (.int .u32 (rv l 3 : Nat)) (.int .u32 (rv l 4 : Nat)) (.slice A6 tO.length c6))
              generalize stF w9 w.heap.size (.int .u8 (kd0 l : Nat)) (.int .u32 (rv l 0 : Nat)) (.int .u32 (rv l 1 : Nat)) (.int .u32 (rv l 2 : Nat)) (.int .u32 (rv l 3 : Nat)) (.int .u32 (rv l 4 : Nat)) (.slice A6 tO.length c6) = wz at *
              have q0 : wz.cell? ⟨w.heap.size, 0, none⟩ = some (.int .u8 (kd0 l : Nat)) := by rw [blk_cell HZZ.out]; rfl
              have q1 : wz.cell? ⟨w.heap.size, 1, none⟩ = some (.int .u32 (rv l 0 : Nat)) := by rw [blk_cell HZZ.out]; rfl
              have q2 : wz.cell? ⟨w.heap.size, 2, none⟩ = some (.int .u32 (rv l 1 : Nat)) := by rw [blk_cell HZZ.out]; rfl
              have q3 : wz.cell? ⟨w.heap.size, 3, none⟩ = some (.int .u32 (rv l 2 : Nat)) := by rw [blk_cell HZZ.out]; rfl
              have q4 : wz.cell? ⟨w.heap.size, 4, none⟩ = some (.int .u32 (rv l 3 : Nat)) := by rw [blk_cell HZZ.out]; rfl
              have q5 : wz.cell? ⟨w.heap.size, 5, none⟩ = some (.int .u32 (rv l 4 : Nat)) := by rw [blk_cell HZZ.out]; rfl
              have q6 : wz.cell? ⟨w.heap.size, 6, none⟩ = some (.slice A6 tO.length c6) := by rw [blk_cell HZZ.out]; rfl
              refine bodyPost_ret (v := .tuple #[.agg #[.int .u8 (kd0 l : Nat), .int .u32 (rv l 0 : Nat), .int .u32 (rv l 1 : Nat), .int .u32 (rv l 2 : Nat), .int .u32 (rv l 3 : Nat), .int .u32 (rv l 4 : Nat), .slice A6 tO.length c6], .int .u64 v8, .int .i64 0]) (by simp [results, Tryd.results53, go_sem, q0, q1, q2, q3, q4, q5, q6]) rfl ?_
              have hF : decF l = ⟨kd0 l, rv l 0, rv l 1, rv l 2, rv l 3, rv l 4, tO⟩ := by rw [HFR.out]; exact if_pos HE.out
              have hT : decT l = v8 := by rw [← HV8.out, HD.out.tag]; exact if_pos HE.out
              refine ⟨.slice A6 tO.length c6, by rw [hF, hT, HE.out]; rfl, ?_, HKZ.out⟩
              rw [hF]
              exact own_less HOZ.out (by omega)
          · have hkb : ((v9 : Int) != (k : Int)) = true := by simp [bne, beq_int, hk]
            have HE := Lib.hid (show decE l = 11 from by rw [HE1.out, if_pos (by rw [← HV.out]; exact hk)])
            clear hk
            have hzz := stF_heap HZ7.out (.int .u8 0) (.int .u32 0) (.int .u32 0) (.int .u32 0) (.int .u32 0) (.int .u32 0) (.slice none 0 0)
            have HKZ := Lib.hid (show Keeps No w (stF w7 w.heap.size (.int .u8 0) (.int .u32 0) (.int .u32 0) (.int .u32 0) (.int .u32 0) (.int .u32 0) (.slice none 0 0)) from K7.out.trans (stF_keeps _ _ _ _ _ _ _ _ _) (fun i hi => .inr (by have hi : i = w.heap.size := hi; omega)))
            have HZZ := Lib.hid hzz
            clear hzz
            go_wp2
            show bodyPost _ _ _ _ _ (stF w7 w.heap.size (.int .u8 0) (.int .u32 0) (.int .u32 0) (.int .u32 0) (.int .u32 0) (.int .u32 0) (.slice none 0 0))
            generalize stF w7 w.heap.size (.int .u8 0) (.int .u32 0) (.int .u32 0) (.int .u32 0) (.int .u32 0) (.int .u32 0) (.slice none 0 0) = wz at *
            have q0 : wz.cell? ⟨w.heap.size, 0, none⟩ = some (.int .u8 0) := by rw [blk_cell HZZ.out]; rfl
            have q1 : wz.cell? ⟨w.heap.size, 1, none⟩ = some (.int .u32 0) := by rw [blk_cell HZZ.out]; rfl
            have q2 : wz.cell? ⟨w.heap.size, 2, none⟩ = some (.int .u32 0) := by rw [blk_cell HZZ.out]; rfl
            have q3 : wz.cell? ⟨w.heap.size, 3, none⟩ = some (.int .u32 0) := by rw [blk_cell HZZ.out]; rfl
            have q4 : wz.cell? ⟨w.heap.size, 4, none⟩ = some (.int .u32 0) := by rw [blk_cell HZZ.out]; rfl
            have q5 : wz.cell? ⟨w.heap.size, 5, none⟩ = some (.int .u32 0) := by rw [blk_cell HZZ.out]; rfl
            have q6 : wz.cell? ⟨w.heap.size, 6, none⟩ = some (.slice none 0 0) := by rw [blk_cell HZZ.out]; rfl
            refine bodyPost_ret (v := .tuple #[.agg #[.int .u8 0, .int .u32 0, .int .u32 0, .int .u32 0, .int .u32 0, .int .u32 0, .slice none 0 0], .int .u64 0, .int .i64 11]) (by simp [results, Tryd.results53, go_sem, q0, q1, q2, q3, q4, q5, q6]) rfl ?_
            have hne : decE l ≠ 0 := by rw [HE.out]; decide
            exact ⟨.slice none 0 0, by rw [decF_bad hne, decT_bad hne, HE.out]; rfl, by rw [decF_bad hne]; exact Ow.nil _ _, HKZ.out⟩
end Go.Proofs.YtieipnnpkngegaaDoor
