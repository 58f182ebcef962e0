/- Alive and Quote of the program's pattern. -/
import Derived.Test.YtobnljndaabkaaaWMt
import Derived.Test.YtobnljndaabkaaaWBd
namespace Go.Proofs.Ytobnljndaabkaaa
open Go.RowKit Go.Proofs.YtobnljndaabkaaaW.PrintWords PatL

set_option linter.unusedSimpArgs false in
set_option maxRecDepth 100000 in
set_option maxHeartbeats 1600000 in
theorem alive_any (w : World) (p : ByteArray) (hp : p.size ≤ 4398046511104) : Calls Try.prog 11 #[.string p] w fun e w' =>
    e = .returned (.bool (alive p.data.toList)) ∧ Keeps No w w' := by
  have HA := Lib.hid (show alive p.data.toList = (piecesF p.data.toList).any (fun x => !x.own) from rfl)
  have hpl := piecesF_len _ p.data.toList (Nat.le_refl _)
  rw [data_length] at hpl
  generalize alive p.data.toList = M at *
  go_enter Try.func11, Try.ntmps11
  go_wp2_with fail
  refine (pieces_any w p hp).mono ?_
  rintro e w1 ⟨v, L, rfl, hL, hI, hk1⟩
  have HI := Lib.hid hI
  have HK1 := Lib.hid hk1
  obtain ⟨A, c, rfl, hlc, hcl⟩ := hI.form
  have HCL := Lib.hid hcl
  have hLl : L.length ≤ 4398046511104 := by have := congrArg List.length hL; rw [List.length_map] at this; omega
  rw [← hL] at HA
  clear hL hI hk1 hcl hpl
  go_wp2
  go_loopw [8] (fun iv wr => ∃ k : Nat, iv = .int .i64 k ∧ k ≤ L.length ∧ (∀ i (h : i < k) (h' : i < L.length), L[i].1.own = true) ∧ Keeps No w1 wr) (fun iv _ => L.length - (intOf iv).toNat)
  case atStart => exact ⟨0, rfl, by omega, fun i h => by omega, Keeps.refl _ _⟩
  case round =>
    obtain ⟨k, rfl, hk, ho, hkr⟩ := hrel
    have HO := Lib.hid ho
    have HKR := Lib.hid hkr
    clear ho hkr
    by_cases hlt : k < L.length
    · have h0 : 0 < L.length := by omega
      obtain ⟨g', hA, hc⟩ := HCL.out h0
      cases hA
      have h3 := hc wr HKR.out k hlt
      have c0 := h3.1
      have c1 := h3.2.1
      have c2 := h3.2.2
      clear hc h3 h0
      generalize (if L[k].1.any = true then none else some ({ block := L[k].2, off := 0 } : Addr)) = ptr at *
      generalize L[k].1.any = anyk at *
      cases hown : L[k].1.own with
      | true =>
        rw [hown] at c2
        have HOW := Lib.hid hown
        clear hown
        go_wp2
        go_roundw
        case rel =>
          refine ⟨k + 1, by go_num, by omega, fun i h h' => ?_, HKR.out.alloc _⟩
          rcases Nat.lt_or_ge i k with h1 | h1
          · exact HO.out i h1 h'
          · obtain rfl : i = k := by omega
            exact HOW.out
        case measure => simp [intOf]; omega
      | false =>
        rw [hown] at c2
        have HX := Lib.hid (show (L.map (·.1)).any (fun x => !x.own) = true from by
          rw [List.any_eq_true]
          exact ⟨L[k].1, List.mem_map_of_mem (List.getElem_mem hlt), by rw [hown]; rfl⟩)
        clear hown
        go_wp2
        go_ret
        exact ⟨ret_eq (by rw [HA.out, HX.out]; rfl), HK1.out.then (HKR.out.alloc _)⟩
    · obtain rfl : k = L.length := by omega
      have HX := Lib.hid (show (L.map (·.1)).any (fun x => !x.own) = false from by
        rw [List.any_eq_false]
        intro x hx
        obtain ⟨y, hy, rfl⟩ := List.mem_map.1 hx
        obtain ⟨i, hi, rfl⟩ := List.getElem_of_mem hy
        rw [HO.out i hi hi]; simp)
      go_wp2
      go_ret
      exact ⟨ret_eq (by rw [HA.out, HX.out]; rfl), HK1.out.then HKR.out⟩
theorem index_special (c : UInt8) : decide (0 ≤ Lib.indexByte [42, 63, 91, 92] c) = special c := by
  have h : ∀ n : Fin 256, decide (0 ≤ Lib.indexByte [42, 63, 91, 92] (UInt8.ofNat n.val)) = special (UInt8.ofNat n.val) := by decide +kernel
  have := h ⟨c.toNat, c.toNat_lt⟩
  simpa using this
theorem quote_len (s : T) : (quote s).length ≤ 2 * s.length := by
  unfold quote
  induction s with
  | nil => simp
  | cons c s ih => simp only [List.flatMap_cons, List.length_append, List.length_cons]; split <;> simp only [List.length_cons, List.length_nil] <;> omega
theorem quote_take (s : ByteArray) (k : Nat) (h : k < s.size) : quote (s.data.toList.take (k + 1)) = quote (s.data.toList.take k) ++ (if special (s[k]'h) = true then [92, s[k]'h] else [s[k]'h]) := by
  have h' : k < s.data.toList.length := by rw [data_length]; exact h
  rw [List.take_succ_eq_append_getElem h']
  unfold quote
  rw [List.flatMap_append]
  simp only [List.flatMap_cons, List.flatMap_nil, List.append_nil]
  rfl
set_option linter.unusedSimpArgs false in
set_option maxRecDepth 100000 in
set_option maxHeartbeats 1600000 in
theorem quote_any (w : World) (s : ByteArray) (hs : s.size ≤ 4398046511104) : Calls Try.prog 20 #[.string s] w fun e w' =>
    e = .returned (.string ⟨(quote s.data.toList).toArray⟩) ∧ Keeps No w w' := by
  have HQT := Lib.hid (fun k h => quote_take s k h)
  have HQL := Lib.hid (fun k => quote_len (s.data.toList.take k))
  have HSL := Lib.hid (data_length s)
  go_enter Try.func20, Try.ntmps20
  go_wp2
  have HB0 := Lib.hid (show Lib.IsBuilder 52 5 w.heap.size w.heap.size (Lib.byteCells []) (w.alloc (.cells #[.pointer none, .slice none 0 0] 52)) from
    .inl ⟨Nat.le_refl _, _, heap_alloc_new w _, World.ownsRow_nil _ _ _ _, by simp [Value.ownBlock]⟩)
  have HK0 := Lib.hid ((Below.refl w.heap.size w).alloc (Nat.le_refl _) (.cells #[.pointer none, .slice none 0 0] 52))
  go_loopw [7] (fun iv wr => ∃ k : Nat, iv = .int .i64 k ∧ k ≤ s.size ∧ Lib.IsBuilder 52 5 w.heap.size w.heap.size (Lib.byteCells (quote (s.data.toList.take k))) wr ∧ Below w.heap.size w wr) (fun iv _ => s.size - (intOf iv).toNat)
  case atStart => exact ⟨0, rfl, by omega, by simpa [quote] using HB0.out, HK0.out⟩
  case round =>
    obtain ⟨k, rfl, hk, hb, hbl⟩ := hrel
    have HB := Lib.hid hb
    have HBL := Lib.hid hbl
    have hql := HQL.out k
    have hsz := hbl.size
    rw [List.length_take, HSL.out] at hql
    clear hb hbl
    by_cases hlt : k < s.size
    · have HQ := Lib.hid (HQT.out k hlt)
      have HIS := Lib.hid (index_special (s[k]'hlt))
      go_wp2_with fail
      refine (Try.strings_IndexByte ⟨#[42, 63, 91, 92]⟩ ((s[k]'hlt).toNat : Int) wr).mono ?_
      rintro e w2 ⟨rfl, rfl⟩
      have e1 : ((((s[k]'hlt).toNat : Nat) : Int).toNat.toUInt8) = s[k]'hlt := by simp
      rw [e1]
      clear e1
      have e2 : ({ data := #[42, 63, 91, 92] } : ByteArray).data.toList = [42, 63, 91, 92] := rfl
      rw [e2]
      clear e2
      generalize Lib.indexByte [42, 63, 91, 92] (s[k]'hlt) = ix at *
      cases hsp : special (s[k]'hlt) with
      | true =>
        rw [hsp] at HIS HQ
        have hix : (0 : Int) ≤ ix := of_decide_eq_true HIS.out
        clear hsp
        go_wp2_with fail
        refine (wbyte_any w.heap.size w.heap.size _ 92 _ HB.out (by omega) hsz).mono ?_
        rintro e w3 ⟨rfl, h3, hb3⟩
        have H3 := Lib.hid h3
        have HB3 := Lib.hid (HBL.out.trans hb3)
        have hsz3 := HB3.out.size
        clear h3 hb3
        go_wp2_with fail
        refine (wbyte_any w.heap.size w.heap.size _ (s[k]'hlt) _ H3.out (by simp; omega) hsz3).mono ?_
        rintro e w4 ⟨rfl, h4, hb4⟩
        have H4 := Lib.hid h4
        have HB4 := Lib.hid (HB3.out.trans hb4)
        clear h4 hb4
        go_wp2
        go_roundw
        case rel =>
          refine ⟨k + 1, by go_num, by omega, ?_, HB4.out⟩
          rw [HQ.out]
          simpa using H4.out
        case measure => simp [intOf]; omega
      | false =>
        rw [hsp] at HIS HQ
        have hix : ix < (0 : Int) := by have := of_decide_eq_false HIS.out; omega
        clear hsp
        go_wp2_with fail
        refine (wbyte_any w.heap.size w.heap.size _ (s[k]'hlt) _ HB.out (by omega) hsz).mono ?_
        rintro e w4 ⟨rfl, h4, hb4⟩
        have H4 := Lib.hid h4
        have HB4 := Lib.hid (HBL.out.trans hb4)
        clear h4 hb4
        go_wp2
        go_roundw
        case rel =>
          refine ⟨k + 1, by go_num, by omega, ?_, HB4.out⟩
          rw [HQ.out]
          simpa using H4.out
        case measure => simp [intOf]; omega
    · obtain rfl : k = s.size := by omega
      go_wp2_with fail
      refine (bstr_any w.heap.size w.heap.size _ wr HB.out hsz).mono ?_
      rintro e w2 ⟨rfl, hb2⟩
      have HB2 := Lib.hid (HBL.out.trans hb2)
      have HTK := Lib.hid (show s.data.toList.take s.size = s.data.toList from List.take_of_length_le (by rw [data_length]; exact Nat.le_refl _))
      clear hb2
      go_wp2
      go_ret
      exact ⟨ret_eq (by rw [HTK.out]; rfl), Keeps.of_below HB2.out⟩
end Go.Proofs.Ytobnljndaabkaaa
