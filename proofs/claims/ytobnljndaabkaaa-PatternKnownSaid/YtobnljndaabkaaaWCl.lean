/- Sets of a pattern: closed. -/
import Derived.Test.YtobnljndaabkaaaWMm
namespace Go.Proofs.Ytobnljndaabkaaa
open Go.RowKit Go.Proofs.YtobnljndaabkaaaW.PrintWords PatL

def strLen : Value → Nat
  | .string t => t.size
  | _ => 0
theorem bang_len (l : T) : (bang l).2.length ≤ l.length := by unfold bang; split <;> simp
/-- What closed has come to. -/
structure CloI (w wr : World) (s : ByteArray) (B : Nat) (r f : Value) : Prop where mk ::
  out : ∃ (t : ByteArray) (first : Bool) (S : Nat → Bool), r = .string t ∧ f = .bool first ∧ t.size ≤ s.size ∧ cloF first S t.data.toList = cloF true (fun _ => false) (bang s.data.toList).2 ∧ wr.heap[B]? = some (.cells (sc S) 66 (0, 0)) ∧ wr.heap[w.heap.size]? = some (.cells #[.bool false, .pointer none, .bool false] 45 (0, 0)) ∧ Keeps No w wr
def upto (S : Nat → Bool) (a k : Nat) : Nat → Bool := fun x => S x || (decide (a ≤ x) && decide (x < k))
theorem upto_self (S : Nat → Bool) (a : Nat) : upto S a a = S := by
  funext x
  unfold upto
  by_cases h : a ≤ x
  · have : ¬ x < a := by omega
    simp [this]
  · simp [h]
theorem upto_put (S : Nat → Bool) (a k x : Nat) (h : a ≤ k) : putS (upto S a k) k true x = upto S a (k + 1) x := by
  unfold putS upto
  by_cases e : x = k
  · subst e; rw [if_pos rfl]; simp [h]
  · rw [if_neg e]
    have : decide (x < k) = decide (x < k + 1) := by rw [decide_eq_decide]; omega
    rw [this]
theorem upto_all (S : Nat → Bool) (a b : UInt8) (k x : Nat) (h1 : a.toNat ≤ k) (h2 : k ≤ max a.toNat (b.toNat + 1)) (h3 : b.toNat < k) : upto S a.toNat k x = addR S a b x := by
  unfold upto addR
  have : (decide (a.toNat ≤ x) && decide (x < k)) = (decide (a.toNat ≤ x) && decide (x ≤ b.toNat)) := by
    by_cases h : a.toNat ≤ x
    · simp [h]; omega
    · simp [h]
  rw [this]
theorem item_one (l : T) (t : ByteArray) (h : t.data.toList = (taken l).2) (hc : t.size ≤ 1 ∨ (∃ h0 : 0 < t.size, ¬ (t[0].toNat : Int) = 45) ∨ ∃ h1 : 1 < t.size, ((t[1].toNat : Int) != 93) = false) : item l = ((taken l).1, (taken l).1, t.data.toList) := by
  unfold item
  rw [← h]
  split
  · rename_i x r e
    have h2 : 1 < t.size := by have := data_length t; rw [e] at this; simp at this; omega
    have e2 := data_cons2 t h2
    rw [e] at e2
    injection e2 with e3 e4
    injection e4 with e4 e5
    rcases hc with hc | ⟨_, hc⟩ | ⟨_, hc⟩
    · omega
    · rw [← e3] at hc; simp at hc
    · rw [← e4] at hc
      have : x = 93 := by
        have hx : (x.toNat : Int) = 93 := by simpa using hc
        exact UInt8.toNat_inj.1 (by simp; omega)
      rw [if_pos this, e]
  · rfl
theorem item_range (l : T) (t : ByteArray) (h : t.data.toList = (taken l).2) (h1 : 1 < t.size) (ha : (t[0].toNat : Int) = 45) (hb : ((t[1].toNat : Int) != 93) = true) :
    item l = ((taken l).1, (taken (t.data.toList.drop 1)).1, (taken (t.data.toList.drop 1)).2) := by
  unfold item
  rw [← h]
  have e2 := data_cons2 t h1
  have e0 : t[0] = 45 := by
    exact UInt8.toNat_inj.1 (by simp; omega)
  have e1 : t[1] ≠ 93 := by intro e; rw [e] at hb; simp at hb
  rw [e0] at e2
  generalize t[1] = y at *
  rw [e2]
  simp only [List.drop_succ_cons, List.drop_zero]
  rw [if_neg e1]
def flip (S : Nat → Bool) (k : Nat) : Nat → Bool := fun x => if x < k then !S x else S x
theorem flip_zero (S : Nat → Bool) : flip S 0 = S := by funext x; simp [flip]
theorem flip_put (S : Nat → Bool) (k x : Nat) : putS (flip S k) k (!S k) x = flip S (k + 1) x := by
  unfold putS flip
  by_cases e : x = k
  · subst e; rw [if_pos rfl, if_pos (by omega)]
  · rw [if_neg e]
    by_cases h : x < k
    · rw [if_pos h, if_pos (by omega)]
    · rw [if_neg h, if_neg (by omega)]
theorem taken_lt (t t2 : ByteArray) (h : t2.data.toList = (taken t.data.toList).2) (h0 : 0 < t.size) : t2.size < t.size := by
  have h1 := taken_len t.data.toList (by intro e; have := data_length t; rw [e] at this; simp at this; omega)
  rw [← h, data_length, data_length] at h1
  exact h1
/-- What closed tells. -/
def CloEnd (w : World) (l : T) (e : Ending) (w' : World) : Prop :=
  Keeps No w w' ∧ match closed l with
  | none => ∃ t, e = .returned (.tuple #[.agg #[.bool false, .pointer none, .bool false], .string t, .bool false])
  | some (S, r) => ∃ (t : ByteArray) (b : Nat), e = .returned (.tuple #[.agg #[.bool false, .pointer (some ⟨b, 0, none⟩), .bool false], .string t, .bool true]) ∧ t.data.toList = r ∧ w'.heap[b]? = some (.cells (sc S) 66 (0, 0)) ∧ w.heap.size ≤ b
set_option linter.unusedSimpArgs false in
set_option maxRecDepth 100000 in
set_option maxHeartbeats 6400000 in
theorem closed_any (w : World) (s : ByteArray) (hs : s.size ≤ 9223372036854775807) : Calls Try.prog 40 #[.string s] w (CloEnd w s.data.toList) := by
  have hz := fun W => sc_zero W
  have HBL := Lib.hid (bang_len s.data.toList)
  go_enter Try.func40, Try.ntmps40
  go_wp2_with fail
  refine (bang_any _ s).mono ?_
  rintro e w1 ⟨⟨t, rfl, ht⟩, rfl⟩
  have HT := Lib.hid ht
  clear ht
  have hb0 := heap_alloc_new (w.alloc (.cells #[.bool false, .pointer none, .bool false] 45)) (.cells (sc fun _ => false) 66)
  rw [World.size_alloc] at hb0
  have hst := sc_store _ _ _ (fun _ => false) hb0
  have HB0 := Lib.hid hb0
  clear hb0
  go_wp2
  go_loopw [5, 8, 9, 10, 11] (fun r f _ _ _ wr => CloI w wr s (w.heap.size + 1) r f) (fun r _ _ _ _ _ => strLen r)
  case atStart =>
    refine ⟨⟨t, true, fun _ => false, rfl, rfl, ?_, by rw [HT.out], ?_, ?_, ?_⟩⟩
    · have h1 := HT.out
      have h2 := HBL.out
      rw [← h1, data_length, data_length] at h2
      exact h2
    · exact setRow_heap _ _ _ _ _ _ HB0.out
    · rw [setRow_other _ _ _ _ (by omega)]
      exact ((Keeps.refl No _).alloc _).heap (heap_alloc_new w _) (fun h => h)
    · exact (((Keeps.refl No w).alloc _).alloc _).setRow (.inr (by simp)) _
  case round =>
    obtain ⟨t1, first, S, rfl, rfl, hle, hclo, hset, hcell, hk⟩ := hrel.out
    have HCLO := Lib.hid hclo
    have HSET := Lib.hid hset
    have HCELL := Lib.hid hcell
    have HK := Lib.hid hk
    clear hclo hset hcell hk hrel hst hz
    by_cases h0 : 0 < t1.size
    · have he : t1.toList.isEmpty = false := by
        rw [toList_data, List.isEmpty_eq_false_iff]
        intro e; have := data_length t1; rw [e] at this; simp at this; omega
      by_cases hgo : first = true ∨ ((t1[0].toNat : Int) != 93) = true
      · have HGO := Lib.hid (show cloF first S t1.data.toList = cloF false (addR S (item t1.data.toList).1 (item t1.data.toList).2.1) (item t1.data.toList).2.2 from by
          have e1 := data_cons t1 h0
          rw [e1]
          refine cloF_go _ _ _ _ ?_
          rintro ⟨rfl, e⟩
          rcases hgo with h | h
          · cases h
          · rw [e] at h; simp at h)
        rw [HGO.out] at HCLO
        clear HGO
        have HTK := Lib.hid (fun W => taken_any W t1 h0 (by omega))
        rcases (show first = true ∨ first = false ∧ ((t1[0].toNat : Int) != 93) = true by cases first <;> simp_all) with rfl | ⟨rfl, hne⟩
        all_goals
          clear hgo
          have hxl := (taken t1.data.toList).1.toNat_lt
          go_wp2_with fail
          refine (HTK.out _).mono ?_
          rintro e w2 ⟨⟨t2, rfl, ht2⟩, hk2⟩
          have ht2l := taken_lt t1 t2 ht2 h0
          replace HSET := Lib.hid (hk2.heap HSET.out (fun h => h))
          replace HCELL := Lib.hid (hk2.heap HCELL.out (fun h => h))
          replace HK := Lib.hid (HK.out.then hk2)
          have HT2 := Lib.hid ht2
          clear hk2 ht2 HTK
          go_wp2_with fail
          · have h1 : 1 < t2.size := by omega
            have HIR := Lib.hid (item_range t1.data.toList t2 HT2.out h1 (by assumption) (by assumption))
            have hsz : (t2.extract 1 t2.size).size = t2.size - 1 := by have := data_length (t2.extract 1 t2.size); rw [extract_drop, List.length_drop, data_length] at this; omega
            refine (taken_any _ (t2.extract 1 t2.size) (by omega) (by omega)).mono ?_
            rintro e w3 ⟨⟨t3, rfl, ht3⟩, hk3⟩
            have ht3l := taken_lt _ t3 ht3 (by omega)
            rw [extract_drop] at ht3
            replace HSET := Lib.hid (hk3.heap HSET.out (fun h => h))
            replace HCELL := Lib.hid (hk3.heap HCELL.out (fun h => h))
            replace HK := Lib.hid (HK.out.then hk3)
            have hyl := (taken (t2.data.toList.drop 1)).1.toNat_lt
            rw [← ht3] at HIR
            have hsz2 : (t2.extract 1 t2.size).size < t2.size := by omega
            rw [extract_drop]
            clear hk3 ht3
            generalize (taken (t2.data.toList.drop 1)).1 = y at *
            generalize (taken t1.data.toList).1 = x at *
            clear hsz
            go_wp2
            have HIT := Lib.hid HIR.out
            obtain ⟨wi, rfl⟩ : ∃ wi : World, wi = w3 := ⟨_, rfl⟩
            have ha := x.toNat_lt
            have hb := y.toNat_lt
            go_loopw [11] (fun iv wq => ∃ k : Nat, iv = .int .i64 k ∧ x.toNat ≤ k ∧ k ≤ max x.toNat (y.toNat + 1) ∧ wq.heap[w.heap.size + 1]? = some (.cells (sc (upto S x.toNat k)) 66 (0, 0)) ∧ wq.heap[w.heap.size]? = some (.cells #[.bool false, .pointer none, .bool false] 45 (0, 0)) ∧ Keeps No w wq) (fun iv _ => y.toNat + 1 - (intOf iv).toNat)
            case atStart => exact ⟨x.toNat, rfl, Nat.le_refl _, by omega, by rw [upto_self]; exact HSET.out, HCELL.out, HK.out⟩
            case round =>
              obtain ⟨k, rfl, hak, hkb, hset, hcell, hk⟩ := hrel
              have HS2 := Lib.hid hset
              have HC2 := Lib.hid hcell
              have HK2 := Lib.hid hk
              clear hset hcell hk
              by_cases hlt : k ≤ y.toNat
              · have hg : wr.cell? ⟨w.heap.size + 1, k, none⟩ = some (.bool (upto S x.toNat k k)) := by rw [blk_cell HS2.out]; exact sc_get _ k (by omega)
                have hf : wr.frozen? ⟨w.heap.size + 1, k, none⟩ = false := blk_frozen HS2.out k
                have hk255 : (k : Int) < 256 := by omega
                go_wp2
                go_roundw
                case rel =>
                  refine ⟨k + 1, by go_num, by omega, by omega, ?_, ?_, HK2.out.setCell (p := ⟨w.heap.size + 1, k, none⟩) (.inr (by simp)) _⟩
                  · rw [blk_set HS2.out, sc_set]
                    rw [sc_ext (T := upto S x.toNat (k + 1)) fun z _ => upto_put S x.toNat k z hak]
                  · exact ((Keeps.refl (fun q => q = w.heap.size + 1) wr).setCell (p := ⟨w.heap.size + 1, k, none⟩) (.inl rfl) _).heap HC2.out (fun h => by have h : w.heap.size = w.heap.size + 1 := h; omega)
                case measure => simp [intOf]; omega
              · have HS3 := Lib.hid (show wr.heap[w.heap.size + 1]? = some (.cells (sc (addR S x y)) 66 (0, 0)) from by
                  rw [HS2.out, sc_ext (T := addR S x y) fun z _ => upto_all S x y k z hak hkb (by omega)])
                go_wp2
                go_roundw
                case rel =>
                  refine ⟨⟨t3, false, addR S x y, rfl, rfl, by omega, ?_, HS3.out, HC2.out, HK2.out⟩⟩
                  rw [← HCLO.out, HIT.out]
                case measure => simp [strLen]; omega
          · have h1 : 1 < t2.size := by omega
            have HIO := Lib.hid (item_one t1.data.toList t2 HT2.out (.inr (.inr ⟨h1, by assumption⟩)))
            generalize (taken t1.data.toList).1 = x at *
            have HIT := Lib.hid HIO.out
            obtain ⟨wi, rfl⟩ : ∃ wi : World, wi = w2 := ⟨_, rfl⟩
            have ha := x.toNat_lt
            have hb := x.toNat_lt
            go_loopw [11] (fun iv wq => ∃ k : Nat, iv = .int .i64 k ∧ x.toNat ≤ k ∧ k ≤ max x.toNat (x.toNat + 1) ∧ wq.heap[w.heap.size + 1]? = some (.cells (sc (upto S x.toNat k)) 66 (0, 0)) ∧ wq.heap[w.heap.size]? = some (.cells #[.bool false, .pointer none, .bool false] 45 (0, 0)) ∧ Keeps No w wq) (fun iv _ => x.toNat + 1 - (intOf iv).toNat)
            case atStart => exact ⟨x.toNat, rfl, Nat.le_refl _, by omega, by rw [upto_self]; exact HSET.out, HCELL.out, HK.out⟩
            case round =>
              obtain ⟨k, rfl, hak, hkb, hset, hcell, hk⟩ := hrel
              have HS2 := Lib.hid hset
              have HC2 := Lib.hid hcell
              have HK2 := Lib.hid hk
              clear hset hcell hk
              by_cases hlt : k ≤ x.toNat
              · have hg : wr.cell? ⟨w.heap.size + 1, k, none⟩ = some (.bool (upto S x.toNat k k)) := by rw [blk_cell HS2.out]; exact sc_get _ k (by omega)
                have hf : wr.frozen? ⟨w.heap.size + 1, k, none⟩ = false := blk_frozen HS2.out k
                have hk255 : (k : Int) < 256 := by omega
                go_wp2
                go_roundw
                case rel =>
                  refine ⟨k + 1, by go_num, by omega, by omega, ?_, ?_, HK2.out.setCell (p := ⟨w.heap.size + 1, k, none⟩) (.inr (by simp)) _⟩
                  · rw [blk_set HS2.out, sc_set]
                    rw [sc_ext (T := upto S x.toNat (k + 1)) fun z _ => upto_put S x.toNat k z hak]
                  · exact ((Keeps.refl (fun q => q = w.heap.size + 1) wr).setCell (p := ⟨w.heap.size + 1, k, none⟩) (.inl rfl) _).heap HC2.out (fun h => by have h : w.heap.size = w.heap.size + 1 := h; omega)
                case measure => simp [intOf]; omega
              · have HS3 := Lib.hid (show wr.heap[w.heap.size + 1]? = some (.cells (sc (addR S x x)) 66 (0, 0)) from by
                  rw [HS2.out, sc_ext (T := addR S x x) fun z _ => upto_all S x x k z hak hkb (by omega)])
                go_wp2
                go_roundw
                case rel =>
                  refine ⟨⟨t2, false, addR S x x, rfl, rfl, by omega, ?_, HS3.out, HC2.out, HK2.out⟩⟩
                  rw [← HCLO.out, HIT.out]
                case measure => simp [strLen]; omega
          · have h1 : 0 < t2.size := by omega
            have HIO := Lib.hid (item_one t1.data.toList t2 HT2.out (.inr (.inl ⟨h1, by assumption⟩)))
            generalize (taken t1.data.toList).1 = x at *
            have HIT := Lib.hid HIO.out
            obtain ⟨wi, rfl⟩ : ∃ wi : World, wi = w2 := ⟨_, rfl⟩
            have ha := x.toNat_lt
            have hb := x.toNat_lt
            go_loopw [11] (fun iv wq => ∃ k : Nat, iv = .int .i64 k ∧ x.toNat ≤ k ∧ k ≤ max x.toNat (x.toNat + 1) ∧ wq.heap[w.heap.size + 1]? = some (.cells (sc (upto S x.toNat k)) 66 (0, 0)) ∧ wq.heap[w.heap.size]? = some (.cells #[.bool false, .pointer none, .bool false] 45 (0, 0)) ∧ Keeps No w wq) (fun iv _ => x.toNat + 1 - (intOf iv).toNat)
            case atStart => exact ⟨x.toNat, rfl, Nat.le_refl _, by omega, by rw [upto_self]; exact HSET.out, HCELL.out, HK.out⟩
            case round =>
              obtain ⟨k, rfl, hak, hkb, hset, hcell, hk⟩ := hrel
              have HS2 := Lib.hid hset
              have HC2 := Lib.hid hcell
              have HK2 := Lib.hid hk
              clear hset hcell hk
              by_cases hlt : k ≤ x.toNat
              · have hg : wr.cell? ⟨w.heap.size + 1, k, none⟩ = some (.bool (upto S x.toNat k k)) := by rw [blk_cell HS2.out]; exact sc_get _ k (by omega)
                have hf : wr.frozen? ⟨w.heap.size + 1, k, none⟩ = false := blk_frozen HS2.out k
                have hk255 : (k : Int) < 256 := by omega
                go_wp2
                go_roundw
                case rel =>
                  refine ⟨k + 1, by go_num, by omega, by omega, ?_, ?_, HK2.out.setCell (p := ⟨w.heap.size + 1, k, none⟩) (.inr (by simp)) _⟩
                  · rw [blk_set HS2.out, sc_set]
                    rw [sc_ext (T := upto S x.toNat (k + 1)) fun z _ => upto_put S x.toNat k z hak]
                  · exact ((Keeps.refl (fun q => q = w.heap.size + 1) wr).setCell (p := ⟨w.heap.size + 1, k, none⟩) (.inl rfl) _).heap HC2.out (fun h => by have h : w.heap.size = w.heap.size + 1 := h; omega)
                case measure => simp [intOf]; omega
              · have HS3 := Lib.hid (show wr.heap[w.heap.size + 1]? = some (.cells (sc (addR S x x)) 66 (0, 0)) from by
                  rw [HS2.out, sc_ext (T := addR S x x) fun z _ => upto_all S x x k z hak hkb (by omega)])
                go_wp2
                go_roundw
                case rel =>
                  refine ⟨⟨t2, false, addR S x x, rfl, rfl, by omega, ?_, HS3.out, HC2.out, HK2.out⟩⟩
                  rw [← HCLO.out, HIT.out]
                case measure => simp [strLen]; omega
          · have HIO := Lib.hid (item_one t1.data.toList t2 HT2.out (.inl (by omega)))
            generalize (taken t1.data.toList).1 = x at *
            have HIT := Lib.hid HIO.out
            obtain ⟨wi, rfl⟩ : ∃ wi : World, wi = w2 := ⟨_, rfl⟩
            have ha := x.toNat_lt
            have hb := x.toNat_lt
            go_loopw [11] (fun iv wq => ∃ k : Nat, iv = .int .i64 k ∧ x.toNat ≤ k ∧ k ≤ max x.toNat (x.toNat + 1) ∧ wq.heap[w.heap.size + 1]? = some (.cells (sc (upto S x.toNat k)) 66 (0, 0)) ∧ wq.heap[w.heap.size]? = some (.cells #[.bool false, .pointer none, .bool false] 45 (0, 0)) ∧ Keeps No w wq) (fun iv _ => x.toNat + 1 - (intOf iv).toNat)
            case atStart => exact ⟨x.toNat, rfl, Nat.le_refl _, by omega, by rw [upto_self]; exact HSET.out, HCELL.out, HK.out⟩
            case round =>
              obtain ⟨k, rfl, hak, hkb, hset, hcell, hk⟩ := hrel
              have HS2 := Lib.hid hset
              have HC2 := Lib.hid hcell
              have HK2 := Lib.hid hk
              clear hset hcell hk
              by_cases hlt : k ≤ x.toNat
              · have hg : wr.cell? ⟨w.heap.size + 1, k, none⟩ = some (.bool (upto S x.toNat k k)) := by rw [blk_cell HS2.out]; exact sc_get _ k (by omega)
                have hf : wr.frozen? ⟨w.heap.size + 1, k, none⟩ = false := blk_frozen HS2.out k
                have hk255 : (k : Int) < 256 := by omega
                go_wp2
                go_roundw
                case rel =>
                  refine ⟨k + 1, by go_num, by omega, by omega, ?_, ?_, HK2.out.setCell (p := ⟨w.heap.size + 1, k, none⟩) (.inr (by simp)) _⟩
                  · rw [blk_set HS2.out, sc_set]
                    rw [sc_ext (T := upto S x.toNat (k + 1)) fun z _ => upto_put S x.toNat k z hak]
                  · exact ((Keeps.refl (fun q => q = w.heap.size + 1) wr).setCell (p := ⟨w.heap.size + 1, k, none⟩) (.inl rfl) _).heap HC2.out (fun h => by have h : w.heap.size = w.heap.size + 1 := h; omega)
                case measure => simp [intOf]; omega
              · have HS3 := Lib.hid (show wr.heap[w.heap.size + 1]? = some (.cells (sc (addR S x x)) 66 (0, 0)) from by
                  rw [HS2.out, sc_ext (T := addR S x x) fun z _ => upto_all S x x k z hak hkb (by omega)])
                go_wp2
                go_roundw
                case rel =>
                  refine ⟨⟨t2, false, addR S x x, rfl, rfl, by omega, ?_, HS3.out, HC2.out, HK2.out⟩⟩
                  rw [← HCLO.out, HIT.out]
                case measure => simp [strLen]; omega
      · obtain ⟨hf, hne⟩ : first = false ∧ ((t1[0].toNat : Int) != 93) = false := by
          cases first
          · refine ⟨rfl, ?_⟩
            cases h : ((t1[0].toNat : Int) != 93)
            · rfl
            · exact absurd (.inr h) hgo
          · exact absurd (.inl rfl) hgo
        subst hf
        clear hgo
        have HEND := Lib.hid (show cloF true (fun _ => false) (bang s.data.toList).2 = (S, 93 :: t1.data.toList.drop 1) from by
          have e1 := data_cons t1 h0
          have e2 : t1[0] = 93 := by
            have hx : (t1[0].toNat : Int) = 93 := by simpa using hne
            exact UInt8.toNat_inj.1 (by simp; omega)
          rw [e2] at e1
          rw [← HCLO.out, e1, cloF_stop]; rfl)
        have HCLD0 := Lib.hid (show closed s.data.toList = some (not_ (bang s.data.toList).1 S, t1.data.toList.drop 1) from by
          unfold closed
          rw [HEND.out])
        generalize (bang s.data.toList).1 = nb at *
        have hle1 : (1 : Int) ≤ (t1.size : Int) := by omega
        cases nb with
        | false =>
          have HCLD := Lib.hid (show closed s.data.toList = some (S, t1.data.toList.drop 1) from by
            rw [HCLD0.out, show not_ false S = S from by funext x; simp [not_]])
          have HC := HCELL
          have HKK := HK
          have HSS := HSET
          have c0 : wr.cell? ⟨w.heap.size, 0, none⟩ = some (.bool false) := by rw [blk_cell HC.out]; rfl
          have f0 : wr.frozen? ⟨w.heap.size, 0, none⟩ = false := blk_frozen HC.out 0
          have c1 : wr.cell? ⟨w.heap.size, 1, none⟩ = some (.pointer none) := by rw [blk_cell HC.out]; rfl
          have f1 : wr.frozen? ⟨w.heap.size, 1, none⟩ = false := blk_frozen HC.out 1
          have c2 : wr.cell? ⟨w.heap.size, 2, none⟩ = some (.bool false) := by rw [blk_cell HC.out]; rfl
          have f2 : wr.frozen? ⟨w.heap.size, 2, none⟩ = false := blk_frozen HC.out 2
          go_wp2
          clear hle hne
          go_region
          have hX : (((wr.setCell ⟨w.heap.size, 0, none⟩ (.bool false)).setCell ⟨w.heap.size, 1, none⟩ (.pointer (some ⟨w.heap.size + 1, 0, none⟩))).setCell ⟨w.heap.size, 2, none⟩ (.bool false)).heap[w.heap.size]? = some (.cells #[.bool false, .pointer (some ⟨w.heap.size + 1, 0, none⟩), .bool false] 45 (0, 0)) := by simpa using blk_set (blk_set (blk_set HC.out 0 (.bool false)) 1 (.pointer (some ⟨w.heap.size + 1, 0, none⟩))) 2 (.bool false)
          have hKX : Keeps No w (((wr.setCell ⟨w.heap.size, 0, none⟩ (.bool false)).setCell ⟨w.heap.size, 1, none⟩ (.pointer (some ⟨w.heap.size + 1, 0, none⟩))).setCell ⟨w.heap.size, 2, none⟩ (.bool false)) := (((HKK.out.setCell (p := ⟨w.heap.size, 0, none⟩) (.inr (Nat.le_refl _)) _).setCell (p := ⟨w.heap.size, 1, none⟩) (.inr (Nat.le_refl _)) _).setCell (p := ⟨w.heap.size, 2, none⟩) (.inr (Nat.le_refl _)) _)
          have hSX := ((((Keeps.refl (fun q => q = w.heap.size) wr).setCell (p := ⟨w.heap.size, 0, none⟩) (.inl rfl) (.bool false)).setCell (p := ⟨w.heap.size, 1, none⟩) (.inl rfl) (.pointer (some ⟨w.heap.size + 1, 0, none⟩))).setCell (p := ⟨w.heap.size, 2, none⟩) (.inl rfl) (.bool false)).heap HSS.out (fun h => by have h : w.heap.size + 1 = w.heap.size := h; omega)
          generalize ((wr.setCell ⟨w.heap.size, 0, none⟩ (.bool false)).setCell ⟨w.heap.size, 1, none⟩ (.pointer (some ⟨w.heap.size + 1, 0, none⟩))).setCell ⟨w.heap.size, 2, none⟩ (.bool false) = X at *
          have d0 : X.cell? ⟨w.heap.size, 0, none⟩ = some (.bool false) := by rw [blk_cell hX]; rfl
          have d1 : X.cell? ⟨w.heap.size, 1, none⟩ = some (.pointer (some ⟨w.heap.size + 1, 0, none⟩)) := by rw [blk_cell hX]; rfl
          have d2 : X.cell? ⟨w.heap.size, 2, none⟩ = some (.bool false) := by rw [blk_cell hX]; rfl
          go_wp2
          refine bodyPost_ret (v := .tuple #[.agg #[.bool false, .pointer (some ⟨w.heap.size + 1, 0, none⟩), .bool false], .string (t1.extract 1 t1.size), .bool true]) (by simp [results, Try.results40, go_sem, d0, d1, d2]) rfl ?_
          refine ⟨hKX.drew, ?_⟩
          rw [HCLD.out]
          exact ⟨_, w.heap.size + 1, rfl, extract_drop t1 1, hSX, by omega⟩
        | true =>
          go_wp2
          obtain ⟨wi, rfl⟩ : ∃ wi : World, wi = wr := ⟨_, rfl⟩
          go_loopw [68, 12] (fun iv _ wq => ∃ k : Nat, iv = .int .i64 k ∧ k ≤ 256 ∧ wq.heap[w.heap.size + 1]? = some (.cells (sc (flip S k)) 66 (0, 0)) ∧ wq.heap[w.heap.size]? = some (.cells #[.bool false, .pointer none, .bool false] 45 (0, 0)) ∧ Keeps No w wq) (fun iv _ _ => 256 - (intOf iv).toNat)
          case atStart => exact ⟨0, rfl, by omega, by rw [flip_zero]; exact HSET.out, HCELL.out, HK.out⟩
          case round =>
            obtain ⟨k, rfl, hkb, hset, hcell, hk⟩ := hrel
            have HSS := Lib.hid hset
            have HC := Lib.hid hcell
            have HKK := Lib.hid hk
            clear hset hcell hk
            by_cases hlt : k < 256
            · have hfl : flip S k k = S k := by simp [flip]
              have hg : wr.cell? ⟨w.heap.size + 1, k, none⟩ = some (.bool (S k)) := by rw [blk_cell HSS.out, sc_get _ k hlt, hfl]
              have hf : wr.frozen? ⟨w.heap.size + 1, k, none⟩ = false := blk_frozen HSS.out k
              clear hfl
              go_wp2
              go_roundw
              case rel =>
                refine ⟨k + 1, by go_num, by omega, ?_, ?_, HKK.out.setCell (p := ⟨w.heap.size + 1, k, none⟩) (.inr (by simp)) _⟩
                · rw [blk_set HSS.out, sc_set]
                  rw [sc_ext (T := flip S (k + 1)) fun x _ => flip_put S k x]
                · exact ((Keeps.refl (fun q => q = w.heap.size + 1) wr).setCell (p := ⟨w.heap.size + 1, k, none⟩) (.inl rfl) _).heap HC.out (fun h => by have h : w.heap.size = w.heap.size + 1 := h; omega)
              case measure => simp [intOf]; omega
            · have HSS' := Lib.hid (show wr.heap[w.heap.size + 1]? = some (.cells (sc (not_ true S)) 66 (0, 0)) from by
                rw [HSS.out, sc_ext (T := not_ true S) fun x hx => by unfold flip; rw [if_pos (by omega)]; simp [not_]])
              clear HSS
              have HSS := HSS'
              have HCLD := HCLD0
              obtain rfl : k = 256 := by omega
              clear hkb hlt HCELL HSET HK
              have c0 : wr.cell? ⟨w.heap.size, 0, none⟩ = some (.bool false) := by rw [blk_cell HC.out]; rfl
              have f0 : wr.frozen? ⟨w.heap.size, 0, none⟩ = false := blk_frozen HC.out 0
              have c1 : wr.cell? ⟨w.heap.size, 1, none⟩ = some (.pointer none) := by rw [blk_cell HC.out]; rfl
              have f1 : wr.frozen? ⟨w.heap.size, 1, none⟩ = false := blk_frozen HC.out 1
              have c2 : wr.cell? ⟨w.heap.size, 2, none⟩ = some (.bool false) := by rw [blk_cell HC.out]; rfl
              have f2 : wr.frozen? ⟨w.heap.size, 2, none⟩ = false := blk_frozen HC.out 2
              go_wp2
              clear hle hne
              go_region
              have hX : (((wr.setCell ⟨w.heap.size, 0, none⟩ (.bool false)).setCell ⟨w.heap.size, 1, none⟩ (.pointer (some ⟨w.heap.size + 1, 0, none⟩))).setCell ⟨w.heap.size, 2, none⟩ (.bool false)).heap[w.heap.size]? = some (.cells #[.bool false, .pointer (some ⟨w.heap.size + 1, 0, none⟩), .bool false] 45 (0, 0)) := by simpa using blk_set (blk_set (blk_set HC.out 0 (.bool false)) 1 (.pointer (some ⟨w.heap.size + 1, 0, none⟩))) 2 (.bool false)
              have hKX : Keeps No w (((wr.setCell ⟨w.heap.size, 0, none⟩ (.bool false)).setCell ⟨w.heap.size, 1, none⟩ (.pointer (some ⟨w.heap.size + 1, 0, none⟩))).setCell ⟨w.heap.size, 2, none⟩ (.bool false)) := (((HKK.out.setCell (p := ⟨w.heap.size, 0, none⟩) (.inr (Nat.le_refl _)) _).setCell (p := ⟨w.heap.size, 1, none⟩) (.inr (Nat.le_refl _)) _).setCell (p := ⟨w.heap.size, 2, none⟩) (.inr (Nat.le_refl _)) _)
              have hSX := ((((Keeps.refl (fun q => q = w.heap.size) wr).setCell (p := ⟨w.heap.size, 0, none⟩) (.inl rfl) (.bool false)).setCell (p := ⟨w.heap.size, 1, none⟩) (.inl rfl) (.pointer (some ⟨w.heap.size + 1, 0, none⟩))).setCell (p := ⟨w.heap.size, 2, none⟩) (.inl rfl) (.bool false)).heap HSS.out (fun h => by have h : w.heap.size + 1 = w.heap.size := h; omega)
              generalize ((wr.setCell ⟨w.heap.size, 0, none⟩ (.bool false)).setCell ⟨w.heap.size, 1, none⟩ (.pointer (some ⟨w.heap.size + 1, 0, none⟩))).setCell ⟨w.heap.size, 2, none⟩ (.bool false) = X at *
              have d0 : X.cell? ⟨w.heap.size, 0, none⟩ = some (.bool false) := by rw [blk_cell hX]; rfl
              have d1 : X.cell? ⟨w.heap.size, 1, none⟩ = some (.pointer (some ⟨w.heap.size + 1, 0, none⟩)) := by rw [blk_cell hX]; rfl
              have d2 : X.cell? ⟨w.heap.size, 2, none⟩ = some (.bool false) := by rw [blk_cell hX]; rfl
              go_wp2
              refine bodyPost_ret (v := .tuple #[.agg #[.bool false, .pointer (some ⟨w.heap.size + 1, 0, none⟩), .bool false], .string (t1.extract 1 t1.size), .bool true]) (by simp [results, Try.results40, go_sem, d0, d1, d2]) rfl ?_
              refine ⟨hKX.drew, ?_⟩
              rw [HCLD.out]
              exact ⟨_, w.heap.size + 1, rfl, extract_drop t1 1, hSX, by omega⟩
    · obtain rfl : t1 = ⟨#[]⟩ := by
        obtain ⟨d⟩ := t1
        have hd : d.size = 0 := by have h0 : ¬ 0 < d.size := h0; omega
        rw [Array.eq_empty_of_size_eq_zero hd]
      have HEND := Lib.hid (show closed s.data.toList = none from by
        unfold closed
        rw [← HCLO.out]; rfl)
      have HC := HCELL
      have c0 : wr.cell? ⟨w.heap.size, 0, none⟩ = some (.bool false) := by rw [blk_cell HC.out]; rfl
      have f0 : wr.frozen? ⟨w.heap.size, 0, none⟩ = false := blk_frozen HC.out 0
      have c1 : wr.cell? ⟨w.heap.size, 1, none⟩ = some (.pointer none) := by rw [blk_cell HC.out]; rfl
      have f1 : wr.frozen? ⟨w.heap.size, 1, none⟩ = false := blk_frozen HC.out 1
      have c2 : wr.cell? ⟨w.heap.size, 2, none⟩ = some (.bool false) := by rw [blk_cell HC.out]; rfl
      have f2 : wr.frozen? ⟨w.heap.size, 2, none⟩ = false := blk_frozen HC.out 2
      have HKK := HK
      go_wp2
      have hX : (((wr.setCell ⟨w.heap.size, 0, none⟩ (.bool false)).setCell ⟨w.heap.size, 1, none⟩ (.pointer none)).setCell ⟨w.heap.size, 2, none⟩ (.bool false)).heap[w.heap.size]? = some (.cells #[.bool false, .pointer none, .bool false] 45 (0, 0)) := by simpa using blk_set (blk_set (blk_set HC.out 0 (.bool false)) 1 (.pointer none)) 2 (.bool false)
      have hKX : Keeps No w (((wr.setCell ⟨w.heap.size, 0, none⟩ (.bool false)).setCell ⟨w.heap.size, 1, none⟩ (.pointer none)).setCell ⟨w.heap.size, 2, none⟩ (.bool false)) := (((HKK.out.setCell (p := ⟨w.heap.size, 0, none⟩) (.inr (Nat.le_refl _)) _).setCell (p := ⟨w.heap.size, 1, none⟩) (.inr (Nat.le_refl _)) _).setCell (p := ⟨w.heap.size, 2, none⟩) (.inr (Nat.le_refl _)) _)
      generalize ((wr.setCell ⟨w.heap.size, 0, none⟩ (.bool false)).setCell ⟨w.heap.size, 1, none⟩ (.pointer none)).setCell ⟨w.heap.size, 2, none⟩ (.bool false) = X at *
      have d0 : X.cell? ⟨w.heap.size, 0, none⟩ = some (.bool false) := by rw [blk_cell hX]; rfl
      have d1 : X.cell? ⟨w.heap.size, 1, none⟩ = some (.pointer none) := by rw [blk_cell hX]; rfl
      have d2 : X.cell? ⟨w.heap.size, 2, none⟩ = some (.bool false) := by rw [blk_cell hX]; rfl
      refine bodyPost_ret (v := .tuple #[.agg #[.bool false, .pointer none, .bool false], .string ⟨#[]⟩, .bool false]) (by simp [results, Try.results40, go_sem, d0, d1, d2]) rfl ?_
      refine ⟨hKX, ?_⟩
      rw [HEND.out]
      exact ⟨_, rfl⟩
end Go.Proofs.Ytobnljndaabkaaa
