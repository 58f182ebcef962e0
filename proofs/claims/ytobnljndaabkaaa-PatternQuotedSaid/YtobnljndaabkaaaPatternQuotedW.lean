/- The walk of the law PatternQuoted. -/
import Derived.Test.YtobnljndaabkaaaWWk
namespace Go.Proofs.Ytobnljndaabkaaa
open Go.RowKit Go.Proofs.YtobnljndaabkaaaW.PrintWords PatL

theorem quote_cons (c : UInt8) (s : T) : quote (c :: s) = (if special c = true then [92, c] else [c]) ++ quote s := by simp [quote]
theorem quote_pieces (tl : T) : ∀ s : T, piecesF (quote s ++ tl) = s.map one ++ piecesF tl
  | [] => by simp [quote]
  | c :: s => by
    rw [quote_cons]
    by_cases hs : special c = true
    · rw [if_pos hs]
      rw [List.append_assoc, List.cons_append, List.cons_append, List.nil_append]
      rw [piecesF_cons _ (by simp), piece_plain rfl (by decide) (by decide) (by decide)]
      simp only [taken, if_true]
      rw [quote_pieces tl s]; rfl
    · rw [if_neg hs]
      have h42 : ¬ c = 42 := by rintro rfl; exact hs (by decide)
      have h63 : ¬ c = 63 := by rintro rfl; exact hs (by decide)
      have h91 : ¬ c = 91 := by rintro rfl; exact hs (by decide)
      have h92 : ¬ c = 92 := by rintro rfl; exact hs (by decide)
      rw [List.append_assoc, List.cons_append, List.nil_append]
      have ht : taken (c :: (quote s ++ tl)) = (c, quote s ++ tl) := by
        cases quote s ++ tl with
        | nil => rfl
        | cons d r => simp only [taken]; rw [if_neg h92]
      rw [piecesF_cons _ (by simp), piece_plain rfl h42 h63 h91, ht, quote_pieces tl s]; rfl
theorem mt_ones : ∀ (s : T) (l : List Pc) (t : T), PatL.mt (s.map one ++ l) t = (s.isPrefixOf t && PatL.mt l (t.drop s.length))
  | [], l, t => by simp
  | c :: s, l, [] => by simp [PatL.mt, one]
  | c :: s, l, d :: t => by
    simp only [List.map_cons, List.cons_append, PatL.mt, one, Bool.false_eq_true, if_false, List.isPrefixOf]
    rw [mt_ones s l t, Bool.and_assoc, List.length_cons, List.drop_succ_cons]
    congr 1
    rw [Bool.eq_iff_iff]
    simp only [decide_eq_true_eq, beq_iff_eq]
    constructor
    · intro h; exact (UInt8.toNat_inj.1 h).symm
    · rintro rfl; rfl
theorem pre_self : ∀ s : T, s.isPrefixOf s = true
  | [] => rfl
  | c :: s => by simp [List.isPrefixOf, pre_self s]
theorem point_ones (s : T) (tl : List Pc) (t : T) (h : s ≠ []) (hp : s.isPrefixOf t = true) : point (s.map one ++ tl) t = false := by
  cases s with
  | nil => exact absurd rfl h
  | cons c s =>
    cases t with
    | nil => rfl
    | cons d t =>
      simp only [List.isPrefixOf, Bool.and_eq_true, beq_iff_eq] at hp
      obtain ⟨rfl, _⟩ := hp
      by_cases e : c = 46
      · subst e; simp [point, one]
      · simp [point, e]
theorem quote_is (s t : T) : mtch (quote s) t = decide (s = t) := by
  have hq := quote_pieces [] s
  rw [List.append_nil, piecesF_nil, List.append_nil] at hq
  have hm : PatL.mt (s.map one) t = decide (s = t) := by
    have := mt_ones s [] t
    rw [List.append_nil] at this
    rw [this, Bool.eq_iff_iff]
    simp only [Bool.and_eq_true, decide_eq_true_eq, PatL.mt, List.isEmpty_iff]
    constructor
    · rintro ⟨h1, h2⟩
      obtain ⟨r, rfl⟩ := List.isPrefixOf_iff_prefix.1 h1
      rw [List.drop_left'] at h2
      · rw [h2, List.append_nil]
      · rfl
    · rintro rfl
      exact ⟨pre_self s, by simp⟩
  unfold mtch
  rw [hq, hm]
  by_cases e : s = t
  · subst e
    cases s with
    | nil => rfl
    | cons c s =>
      have := point_ones (c :: s) [] (c :: s) (by simp) (pre_self _)
      rw [List.append_nil] at this
      rw [this]; rfl
  · simp [e]
theorem mt_star : ∀ r : T, PatL.mt [star] r = true
  | [] => by simp [PatL.mt, star]
  | c :: r => by
    have := mt_star r
    unfold PatL.mt
    rw [if_pos (show star.any = true from rfl), this, Bool.or_true]
theorem quote_star (s t : T) (h : s ≠ []) : mtch (quote s ++ [42]) t = s.isPrefixOf t := by
  have hq : piecesF (quote s ++ [42]) = s.map one ++ [star] := by rw [quote_pieces]; rfl
  unfold mtch
  rw [hq, mt_ones, mt_star, Bool.and_true]
  cases hp : s.isPrefixOf t with
  | false => simp
  | true => rw [point_ones s [star] t h hp]; rfl
theorem quote_nil_star (t : T) : mtch (quote [] ++ [42]) t = !Lib.hasPrefix t [46] := by
  unfold mtch
  rw [show piecesF (quote [] ++ [42]) = [star] from rfl, mt_star, Bool.and_true, dot_eq]
  cases t <;> simp [point, star]
theorem quote_dead (s : T) : alive (quote s) = false := by
  have hq := quote_pieces [] s
  rw [List.append_nil, piecesF_nil, List.append_nil] at hq
  unfold alive
  rw [hq]
  simp [one]
theorem cut_list (s : ByteArray) (q : Nat) : (s.extract 0 q).data.toList = s.data.toList.take q := by rw [Lib.extract_data]; simp
theorem bnn (b : Bool) : (b != b) = false := by cases b <;> rfl
theorem bee (b : Bool) : (b == b) = true := by cases b <;> rfl
theorem match_arr (w : World) (l : T) (t : ByteArray) (b : Bool) (hl : l.length ≤ 100) (ht : t.size ≤ 9223372036854775806) (h : mtch l t.data.toList = b) :
    Calls Try.prog 10 #[.string ⟨l.toArray⟩, .string t] w fun e w' => e = .returned (.bool b) ∧ Keeps No w w' :=
  match_is w ⟨l.toArray⟩ t b (by have h1 : ByteArray.size ⟨l.toArray⟩ = l.length := rfl; omega) ht h
theorem match_star (w : World) (l : T) (t : ByteArray) (b : Bool) (hl : l.length ≤ 100) (ht : t.size ≤ 9223372036854775806) (h : mtch (l ++ [42]) t.data.toList = b) :
    Calls Try.prog 10 #[.string (⟨l.toArray⟩ ++ ⟨#[42]⟩), .string t] w fun e w' => e = .returned (.bool b) ∧ Keeps No w w' := by
  obtain ⟨p, hp⟩ : ∃ p : ByteArray, p = ⟨l.toArray⟩ ++ ⟨#[42]⟩ := ⟨_, rfl⟩
  have e : p.data.toList = l ++ [42] := by rw [hp, data_app]
  have hs : p.size ≤ 4398046511104 := by
    rw [← data_length, e, List.length_append, List.length_singleton]; omega
  rw [← hp]
  refine match_is w p t b hs ht ?_
  rw [e]; exact h
set_option linter.unusedSimpArgs false in
set_option maxRecDepth 100000 in
set_option maxHeartbeats 3200000 in
theorem patternQuoted_walk (w : World) (s : ByteArray) (hs : s.size ≤ 9223372036854775807) (t : ByteArray) (ht : t.size ≤ 9223372036854775807) :
    Calls Try.prog 6 #[.string s, .string t] w fun e w' => e = .returned (.bool true) ∧ Keeps No w w' := by
  have hm1 := min_num s.size 40 40 rfl
  have hm2 := min_num t.size 40 40 rfl
  have hq1 : ((min s.size 40 : Nat) : Int) ≤ (s.size : Int) := by omega
  have hq2 : ((min t.size 40 : Nat) : Int) ≤ (t.size : Int) := by omega
  have hs1 : (s.extract 0 (min s.size 40)).size ≤ 40 := by rw [← data_length, cut_list, List.length_take]; omega
  have ht1 : (t.extract 0 (min t.size 40)).size ≤ 40 := by rw [← data_length, cut_list, List.length_take]; omega
  generalize min s.size 40 = q1 at *
  generalize min t.size 40 = q2 at *
  go_enter Try.func6, Try.ntmps6
  go_wp2
  go_quiet (fail)
  generalize s.extract 0 q1 = s' at *
  generalize t.extract 0 q2 = t' at *
  clear hm1 hm2 hq1 hq2 hs ht
  have HQ := Lib.hid (quote_is s'.data.toList s'.data.toList)
  have HD := Lib.hid (quote_is s'.data.toList t'.data.toList)
  have HDE := Lib.hid (quote_dead s'.data.toList)
  have hql := quote_len s'.data.toList
  have hsl := data_length s'
  rw [hsl] at hql
  have HSL := Lib.hid hsl
  have hEq : (s'.toList == t'.toList) = decide (s'.data.toList = t'.data.toList) := by
    rw [toList_data, toList_data, Bool.eq_iff_iff]
    simp
  have HS1 := Lib.hid (fun h => quote_star s'.data.toList t'.data.toList h)
  have HS2 := Lib.hid (fun h => (quote_star s'.data.toList (s'.data.toList ++ t'.data.toList) h).trans (by rw [List.isPrefixOf_iff_prefix.2 (List.prefix_append _ _)]))
  have HS3 := Lib.hid (show s'.data.toList = [] → mtch (quote s'.data.toList ++ [42]) t'.data.toList = !Lib.hasPrefix t'.data.toList [46] from fun h => by rw [h]; exact quote_nil_star t'.data.toList)
  have HQA := Lib.hid (fun W => quote_any W s' (by omega))
  clear hsl
  generalize quote s'.data.toList = q at *
  have hpl : q.length ≤ 80 := by omega
  clear hql
  go_wp2_with fail
  refine (HQA.out _).mono ?_
  rintro e w1 ⟨rfl, hk⟩
  have K1 := Lib.hid (((Keeps.refl No w).drewN nq).then hk)
  clear hk HQA
  go_wp2_with fail
  refine (match_arr w1 q s' true (by omega) (by omega) (HQ.out.trans (by simp))).mono ?_
  rintro e w2 ⟨rfl, hk⟩
  have K2 := Lib.hid (K1.out.then hk)
  clear hk
  go_wp2_with fail
  refine (match_arr w2 q t' (decide (s'.data.toList = t'.data.toList)) (by omega) (by omega) HD.out).mono ?_
  rintro e w3 ⟨rfl, hk⟩
  have K3 := Lib.hid (K2.out.then hk)
  have hnn := bnn (decide (s'.data.toList = t'.data.toList))
  clear hk HD
  generalize decide (s'.data.toList = t'.data.toList) = D at *
  go_wp2_with fail
  refine (alive_is w3 ⟨q.toArray⟩ false (by have h1 : ByteArray.size ⟨q.toArray⟩ = q.length := rfl; omega) HDE.out).mono ?_
  rintro e w4 ⟨rfl, hk⟩
  have K4 := Lib.hid (K3.out.then hk)
  clear hk hEq hnn
  by_cases h0 : 0 < s'.size
  · have he : s'.toList.isEmpty = false := by
      rw [toList_data, List.isEmpty_eq_false_iff]
      intro e; have := data_length s'; rw [e] at this; simp at this; omega
    have hne : s'.data.toList ≠ [] := by intro e; have := data_length s'; rw [e] at this; simp at this; omega
    have HS1' := Lib.hid (HS1.out hne)
    have HS2' := Lib.hid (HS2.out hne)
    clear hne HS1 HS2 HS3
    go_wp2_with fail
    refine (match_star w4 q t' (Lib.hasPrefix t'.data.toList s'.data.toList) (by omega) (by omega) HS1'.out).mono ?_
    rintro e w5 ⟨rfl, hk⟩
    have K5 := Lib.hid (K4.out.then hk)
    clear hk
    go_wp2_with fail
    refine (Try.strings_HasPrefix t' s' w5).mono ?_
    rintro e w6 ⟨rfl, rfl⟩
    have hee := bee (Lib.hasPrefix t'.data.toList s'.data.toList)
    clear HS1'
    generalize Lib.hasPrefix t'.data.toList s'.data.toList = P at *
    go_wp2_with fail
    refine (match_star _ q (s' ++ t') true (by omega) (by rw [ByteArray.size_append]; omega) (by rw [data_app]; exact HS2'.out)).mono ?_
    rintro e w7 ⟨rfl, hk⟩
    have K7 := Lib.hid (K5.out.then hk)
    clear hk
    go_wp2_with fail
    refine (wakes_any _).mono ?_
    rintro e w8 ⟨rfl, hk⟩
    have K8 := Lib.hid (K7.out.then hk)
    clear hk
    go_wp2
    go_ret
    exact ⟨rfl, K8.out⟩
  · have hnil : s'.data.toList = [] := List.length_eq_zero_iff.1 (by rw [data_length]; omega)
    have he : s'.toList.isEmpty = true := by rw [toList_data, hnil]; rfl
    have he2 : s'.toList = [] := by rw [toList_data, hnil]
    have HS3' := Lib.hid (HS3.out hnil)
    clear hnil HS1 HS2 HS3
    go_wp2_with fail
    refine (match_star w4 q t' (!Lib.hasPrefix t'.data.toList [46]) (by omega) (by omega) HS3'.out).mono ?_
    rintro e w5 ⟨rfl, hk⟩
    have K5 := Lib.hid (K4.out.then hk)
    clear hk HS3'
    go_wp2_with fail
    refine (Try.strings_HasPrefix t' ⟨#[46]⟩ w5).mono ?_
    rintro e w6 ⟨rfl, rfl⟩
    have e46 : Lib.hasPrefix t'.data.toList ({ data := #[46] } : ByteArray).data.toList = Lib.hasPrefix t'.data.toList [46] := rfl
    rw [e46]
    clear e46
    generalize Lib.hasPrefix t'.data.toList [46] = P at *
    have hee := bee (!P)
    go_wp2_with fail
    refine (wakes_any _).mono ?_
    rintro e w8 ⟨rfl, hk⟩
    have K8 := Lib.hid (K5.out.then hk)
    clear hk
    go_wp2
    go_ret
    exact ⟨rfl, K8.out⟩
end Go.Proofs.Ytobnljndaabkaaa
