/- Pieces of a pattern in memory. -/
import Derived.Test.YtobnljndaabkaaaU
import Derived.Test.YtobnljndaabkaaaWPl
import Derived.Outline
import Derived.Handy
import Derived.Lib.Strings
import Derived.Test.YtobnljndaabkaaaWSh
import Derived.Laws.Tables
import Derived.Test.YtobnljndaabkaaaProg
namespace Go.Proofs.Ytobnljndaabkaaa
open Go.RowKit Go.Proofs.YtobnljndaabkaaaW.PrintWords PatL

/-- The cells of a set. -/
def sc (S : Nat → Bool) : Array Value := ((List.range 256).map fun c => Value.bool (S c)).toArray
theorem sc_zero (w : World) : (zeroValue 66).run Try.prog w = .ok (.agg (sc fun _ => false)) w := by kernel_rfl
theorem sc_size (S : Nat → Bool) : (sc S).size = 256 := by simp [sc]
theorem sc_get (S : Nat → Bool) (c : Nat) (h : c < 256) : (sc S)[c]? = some (.bool (S c)) := by simp [sc, h]
/-- A byte put into a set. -/
def putS (S : Nat → Bool) (c : Nat) (b : Bool) : Nat → Bool := fun x => if x = c then b else S x
theorem sc_set (S : Nat → Bool) (c : Nat) (b : Bool) : (sc S).setIfInBounds c (.bool b) = sc (putS S c b) := by
  apply Array.ext
  · simp [sc]
  · intro i h1 h2
    have hi : i < 256 := by simp [sc] at h2; exact h2
    rw [Array.getElem_setIfInBounds]
    · by_cases e : c = i
      · subst e; simp [sc, putS]
      · rw [if_neg e]
        have e' : ¬ i = c := fun h => e h.symm
        simp [sc, putS, e']
    · simp [sc]; exact hi
theorem sc_ext {S T : Nat → Bool} (h : ∀ c, c < 256 → S c = T c) : sc S = sc T := by
  unfold sc
  congr 1
  exact List.map_congr_left fun c hc => by rw [h c (List.mem_range.1 hc)]
theorem sc_cells (S : Nat → Bool) : (sc S).all (·.oneCell') = true := by simp [sc, Value.oneCell']
theorem sc_store (W : World) (b : Nat) (S T : Nat → Bool) (h : W.heap[b]? = some (.cells (sc S) 66 (0, 0))) :
    (storeCells ⟨b, 0, none⟩ (sc T).toList).run Try.prog W = .ok () (W.setRow b (sc T)) := by
  have h := run_storeCells_from (P := Try.prog) b 66 (sc T).toList 0 (sc S) W h (by simp [sc]) (fun v hv => (Array.all_eq_true_iff_forall_mem.1 (sc_cells T)) v (by simpa using hv))
  rw [List.take_zero, List.nil_append, Array.toArray_toList] at h
  exact h
theorem Keeps.setRow {Q : Nat → Prop} {a w : World} (h : Keeps Q a w) {b : Nat} (hb : Q b ∨ a.heap.size ≤ b) (cs : Array Value) : Keeps Q a (w.setRow b cs) :=
  h.trans (S1 := fun i => i = b) ⟨rfl, rfl, rfl, by simp, fun k _ hk => setRow_other _ _ _ _ hk⟩ (fun i hi => by subst hi; exact hb)
set_option maxRecDepth 100000 in
set_option maxHeartbeats 400000 in
theorem one_any (w : World) (c : UInt8) : Calls Try.prog 42 #[.int .u8 c.toNat] w fun e w' =>
    e = .returned (.agg #[.bool false, .pointer (some ⟨w.heap.size + 1, 0, none⟩), .bool true]) ∧ w'.heap[w.heap.size + 1]? = some (.cells (sc (one c).set) 66 (0, 0)) ∧ Keeps No w w' := by
  have hc := c.toNat_lt
  have hz := fun W => sc_zero W
  have hget := sc_get (fun _ => false) c.toNat hc
  have HS := Lib.hid (show (sc fun _ => false).setIfInBounds c.toNat (.bool true) = sc (one c).set from by
    rw [sc_set]
    exact sc_ext fun x _ => by simp [putS, one])
  go_enter Try.func42, Try.ntmps42
  go_wp2
  go_returns
  rw [HS.out]
  refine ⟨rfl, ?_, (((Keeps.refl No w).alloc _).alloc _).alloc _⟩
  have h := heap_alloc_new (w.alloc (.cells #[.bool false, .pointer (some ⟨w.heap.size + 1, 0, none⟩), .bool true] 45)) (.cells (sc (one c).set) 66)
  rw [World.size_alloc] at h
  exact ((Keeps.refl No _).alloc _).heap h (fun h => h)
theorem toList_loop (b : ByteArray) : ∀ (m i : Nat) (r : List UInt8), b.size - i ≤ m → ByteArray.toList.loop b i r = r.reverse ++ b.data.toList.drop i := by
  intro m
  induction m with
  | zero =>
    intro i r h
    rw [ByteArray.toList.loop, if_neg (by omega), List.drop_eq_nil_of_le (by have := data_length b; omega), List.append_nil]
  | succ m ih =>
    intro i r h
    rw [ByteArray.toList.loop]
    by_cases hi : i < b.size
    · rw [if_pos hi, ih _ _ (by omega)]
      have hlt : i < b.data.toList.length := by have := data_length b; omega
      rw [List.drop_eq_getElem_cons hlt]
      have : b.get! i = b.data.toList[i] := by
        obtain ⟨⟨d⟩⟩ := b
        simp at hlt
        simp [ByteArray.get!, hlt]
      simp [this]
    · rw [if_neg hi, List.drop_eq_nil_of_le (by have := data_length b; omega), List.append_nil]
theorem toList_data (b : ByteArray) : b.toList = b.data.toList := by
  rw [ByteArray.toList, toList_loop b b.size 0 [] (by omega)]
  rfl
/-- A byte's text. -/
theorem data_get (s : ByteArray) (l : List UInt8) (hl : s.data.toList = l) (i : Nat) (hi : i < s.size) : s[i] = l.getD i 0 := by
  subst hl
  have h : i < s.data.toList.length := by rw [data_length]; exact hi
  rw [List.getD_eq_getElem?_getD, List.getElem?_eq_getElem h]
  rfl
theorem data_cons (s : ByteArray) (h : 0 < s.size) : s.data.toList = s[0] :: s.data.toList.drop 1 := by
  have h' : 0 < s.data.toList.length := by rw [data_length]; exact h
  have := List.drop_eq_getElem_cons h'
  rw [List.drop_zero] at this
  exact this
theorem data_cons2 (s : ByteArray) (h : 1 < s.size) : s.data.toList = s[0] :: s[1] :: s.data.toList.drop 2 := by
  have h' : 1 < s.data.toList.length := by rw [data_length]; exact h
  have e := List.drop_eq_getElem_cons h'
  have e0 := data_cons s (by omega)
  rw [e] at e0
  exact e0
theorem extract_drop (s : ByteArray) (i : Nat) : (s.extract i s.size).data.toList = s.data.toList.drop i := by
  rw [Lib.extract_data]
  rw [List.take_of_length_le]
  simp
theorem taken1 (s : ByteArray) (h0 : 0 < s.size) (h : s.size ≤ 1 ∨ ((s[0].toNat : Int) == 92) = false) : taken s.data.toList = (s[0], s.data.toList.drop 1) := by
  by_cases h1 : 1 < s.size
  · rw [data_cons2 s h1]
    simp only [taken]
    rw [if_neg]
    · rfl
    · rcases h with h | h
      · omega
      · intro e
        rw [e] at h
        simp at h
  · have e := data_cons s h0
    have : s.data.toList.drop 1 = [] := List.drop_eq_nil_of_le (by rw [data_length]; omega)
    rw [e, this]; simp [taken]
theorem taken2 (s : ByteArray) (h1 : 1 < s.size) (h : ((s[0].toNat : Int) == 92) = true) : taken s.data.toList = (s[1], s.data.toList.drop 2) := by
  rw [data_cons2 s h1]
  simp only [taken]
  rw [if_pos]
  · rfl
  · have : (s[0].toNat : Int) = 92 := by simpa using h
    exact UInt8.toNat_inj.1 (by simp; omega)
set_option maxRecDepth 100000 in
set_option maxHeartbeats 400000 in
theorem taken_any (w : World) (s : ByteArray) (h0 : 0 < s.size) (hs : s.size ≤ 9223372036854775807) : Calls Try.prog 41 #[.string s] w fun e w' =>
    (∃ t : ByteArray, e = .returned (.tuple #[.int .u8 (taken s.data.toList).1.toNat, .string t]) ∧ t.data.toList = (taken s.data.toList).2) ∧ Keeps No w w' := by
  have H1 := Lib.hid (fun h => taken1 s h0 h)
  have H2 := Lib.hid (fun h1 h => taken2 s h1 h)
  go_enter Try.func41, Try.ntmps41
  go_wp2
  · have h1 : 1 < s.size := by omega
    have h := H2.out h1 (by assumption)
    go_region
    go_wp2
    go_ret2
    exact ⟨⟨_, by rw [h]; rfl, by rw [h]; exact extract_drop s 2⟩, (Keeps.refl No w).drew⟩
  · have h0' : ((s[0].toNat : Int) == 92) = false := by assumption
    have h := H1.out (.inr h0')
    go_region
    go_wp2
    go_ret2
    exact ⟨⟨_, by rw [h]; rfl, by rw [h]; exact extract_drop s 1⟩, (Keeps.refl No w).drew⟩
  · have h := H1.out (.inl (by omega))
    go_region
    go_wp2
    go_ret2
    exact ⟨⟨_, by rw [h]; rfl, by rw [h]; exact extract_drop s 1⟩, (Keeps.refl No w).drew⟩
theorem bang_eq (l : T) : Lib.hasPrefix l [33] = (bang l).1 ∧ Lib.trimPrefix l [33] = (bang l).2 := by
  cases l with
  | nil => exact ⟨rfl, rfl⟩
  | cons c l =>
    by_cases h : c = 33
    · subst h; exact ⟨rfl, rfl⟩
    · have hb : bang (c :: l) = (false, c :: l) := by
        unfold bang
        split
        · rename_i e; injection e with e1 e2; exact absurd e1 h
        · rfl
      have hp : Lib.hasPrefix (c :: l) [33] = false := by simp [Lib.hasPrefix, List.isPrefixOf]; exact fun e => h e.symm
      exact ⟨by rw [hp, hb], by unfold Lib.trimPrefix; rw [hp, hb]; rfl⟩
theorem bang_any (w : World) (s : ByteArray) : Calls Try.prog 54 #[.string s, .string ⟨#[33]⟩] w fun e w' =>
    (∃ t : ByteArray, e = .returned (.tuple #[.string t, .bool (bang s.data.toList).1]) ∧ t.data.toList = (bang s.data.toList).2) ∧ w = w' := by
  refine (Try.strings_CutPrefix s ⟨#[33]⟩ w).mono ?_
  rintro e w' ⟨rfl, rfl⟩
  have hb := bang_eq s.data.toList
  refine ⟨⟨⟨(Lib.trimPrefix s.data.toList [33]).toArray⟩, ?_, hb.2⟩, rfl⟩
  rw [← hb.1]
end Go.Proofs.Ytobnljndaabkaaa
