/- Greedy matching with one star kept is matching. -/
import Derived.Test.YtobnljndaabkaaaWPl
namespace Go.Proofs.Ytobnljndaabkaaa.PatL
def allAny (l : List Pc) : Bool := l.all (·.any)
theorem mt_nil (l : List Pc) : mt l [] = allAny l := by
  induction l with
  | nil => simp [mt, allAny]
  | cons p l ih => simp only [mt, allAny, List.all_cons] at *; rw [ih]
/-- behind an any: somewhere on -/
theorem mt_any (p : Pc) (l : List Pc) (hp : p.any = true) (s : List UInt8) : mt (p :: l) s = true ↔ ∃ j, j ≤ s.length ∧ mt l (s.drop j) = true := by
  induction s with
  | nil => simp [mt, hp]
  | cons c s ih =>
    rw [mt, if_pos hp, Bool.or_eq_true, ih]
    constructor
    · rintro (h | ⟨j, hj, h⟩)
      · exact ⟨0, by simp, by simpa using h⟩
      · exact ⟨j + 1, by simp; omega, by simpa using h⟩
    · rintro ⟨j, hj, h⟩
      cases j with
      | zero => exact .inl (by simpa using h)
      | succ j => exact .inr ⟨j, by simp at hj; omega, by simpa using h⟩

/-- the block b of sets stands at the front of s -/
def front : List Pc → List UInt8 → Bool
  | [], _ => true
  | _ :: _, [] => false
  | p :: b, c :: s => !p.any && p.set c.toNat && front b s
theorem front_len (b : List Pc) : ∀ s, front b s = true → b.length ≤ s.length := by
  induction b with
  | nil => simp
  | cons p b ih =>
    intro s h
    cases s with
    | nil => simp [front] at h
    | cons c s =>
      simp only [front, Bool.and_eq_true] at h
      have := ih s h.2
      simp; omega
/-- a block of sets ahead of what is left -/
theorem mt_block (b l : List Pc) (hb : ∀ p ∈ b, p.any = false) : ∀ s, mt (b ++ l) s = (front b s && mt l (s.drop b.length)) := by
  induction b with
  | nil => intro s; simp [front]
  | cons p b ih =>
    intro s
    have hp := hb p (by simp)
    cases s with
    | nil => simp [mt, front, hp]
    | cons c s =>
      rw [List.cons_append, mt, ih (fun q hq => hb q (by simp [hq])) s]
      simp [hp, front, Bool.and_assoc]
theorem front_snoc (b : List Pc) (p : Pc) (hp : p.any = false) : ∀ s, front b s = true → front (b ++ [p]) s = (match s.drop b.length with | [] => false | c :: _ => p.set c.toNat) := by
  induction b with
  | nil => intro s _; cases s <;> simp [front, hp]
  | cons q b ih =>
    intro s h
    cases s with
    | nil => simp [front] at h
    | cons c s =>
      simp only [front, Bool.and_eq_true] at h
      simp only [List.cons_append, front, List.length_cons, List.drop_succ_cons]
      rw [ih s h.2, h.1.1, h.1.2]; simp

/-- the greedy loop. star: the place behind the last any (0: none), from: where it has come to. -/
def greedy (l : List Pc) (s : List UInt8) : Nat → Nat → Nat → Nat → Nat → Option Bool
  | 0, _, _, _, _ => none
  | n + 1, k, at_, star, from_ =>
    if at_ < s.length then
      if k < l.length ∧ (l.getD k ⟨false, false, fun _ => false⟩).any = true then greedy l s n (k + 1) at_ (k + 1) at_
      else if k < l.length ∧ (l.getD k ⟨false, false, fun _ => false⟩).set (s.getD at_ 0).toNat = true then greedy l s n (k + 1) (at_ + 1) star from_
      else if 0 < star then greedy l s n star (from_ + 1) star (from_ + 1)
      else some false
    else some (allAny (l.drop k))

structure Ends (l : List Pc) (s : List UInt8) (r : Bool) (star from_ : Nat) : Prop where mk :: (out : r = true ↔ ∃ j, from_ ≤ j ∧ j ≤ s.length ∧ mt (l.drop star) (s.drop j) = true)
def inv (l : List Pc) (s : List UInt8) (r : Bool) (k at_ star from_ : Nat) : Prop :=
  (star ≤ k ∧ from_ ≤ at_) ∧ k ≤ l.length ∧ at_ ≤ s.length ∧
  if star = 0 then (∀ p ∈ l.take k, p.any = false) ∧ r = mt (l.drop k) (s.drop at_)
  else star ≤ k ∧ from_ ≤ at_ ∧ at_ - from_ = k - star ∧ (∀ p ∈ (l.take k).drop star, p.any = false) ∧ front ((l.take k).drop star) (s.drop from_) = true ∧
    Ends l s r star from_

theorem parts (l : List Pc) (star k : Nat) (h : star ≤ k) (hk : k ≤ l.length) : l.drop star = (l.take k).drop star ++ l.drop k := by
  have h1 : l.drop star = (l.take k ++ l.drop k).drop star := by rw [List.take_append_drop]
  rw [h1, List.drop_append_of_le_length (by simp; omega)]
theorem blen (l : List Pc) (star k : Nat) (hk : k ≤ l.length) : ((l.take k).drop star).length = k - star := by simp; omega

/-- what holds, by what is left to do -/
def meas (l : List Pc) (s : List UInt8) (k star from_ : Nat) : Nat := ((l.length + 1 - star) + (s.length + 1 - from_)) * (l.length + 2) + (l.length + 1 - k)

theorem greedy_is (l : List Pc) (s : List UInt8) (r : Bool) : ∀ n k at_ star from_, from_ ≤ s.length → star ≤ l.length → meas l s k star from_ < n → inv l s r k at_ star from_ → greedy l s n k at_ star from_ = some r := by
  intro n
  induction n with
  | zero => intro k at_ star from_ _ _ h; omega
  | succ n ih =>
    intro k at_ star from_ hf hst hm ⟨⟨hsk, hfa⟩, hk, hat, hi⟩
    rw [greedy]
    by_cases hlt : at_ < s.length
    · rw [if_pos hlt]
      by_cases h1 : k < l.length ∧ (l.getD k ⟨false, false, fun _ => false⟩).any = true
      · rw [if_pos h1]
        obtain ⟨hkl, hany⟩ := h1
        have hget : l.getD k ⟨false, false, fun _ => false⟩ = l[k] := by simp [List.getD_eq_getElem?_getD, hkl]
        rw [hget] at hany
        have hdrop : l.drop k = l[k] :: l.drop (k + 1) := List.drop_eq_getElem_cons hkl
        refine ih _ _ _ _ hat (by omega) ?_ ?_
        · have hx : (l.length + 1 - (k + 1)) + (s.length + 1 - at_) + 1 ≤ (l.length + 1 - star) + (s.length + 1 - from_) := by omega
          have hy := Nat.mul_le_mul_right (l.length + 2) hx
          rw [Nat.succ_mul] at hy
          unfold meas at *
          omega
        · refine ⟨⟨Nat.le_refl _, Nat.le_refl _⟩, by omega, hat, ?_⟩
          rw [if_neg (by omega)]
          refine ⟨Nat.le_refl _, Nat.le_refl _, by omega, ?_, ?_, ⟨?_⟩⟩
          · intro p hp; rw [List.drop_eq_nil_of_le (by simp; omega)] at hp; cases hp
          · rw [List.drop_eq_nil_of_le (by simp; omega)]; rfl
          · by_cases hs0 : star = 0
            · rw [if_pos hs0] at hi
              rw [hi.2, hdrop, mt_any _ _ hany]
              constructor
              · rintro ⟨j, hj, h⟩
                rw [List.drop_drop] at h
                exact ⟨at_ + j, by omega, by simp at hj; omega, h⟩
              · rintro ⟨j, h1, h2, h⟩
                exact ⟨j - at_, by simp; omega, by rw [List.drop_drop, show at_ + (j - at_) = j by omega]; exact h⟩
            · rw [if_neg hs0] at hi
              obtain ⟨g1, g2, g3, g4, g5, g6⟩ := hi
              rw [g6.out]
              have hp := parts l star k g1 hk
              have hbl := blen l star k hk
              constructor
              · rintro ⟨j, h1, h2, h⟩
                rw [hp, mt_block _ _ g4, Bool.and_eq_true, hbl, hdrop, mt_any _ _ hany] at h
                obtain ⟨hfr, j2, hj2, h⟩ := h
                rw [List.drop_drop, List.drop_drop] at h
                have := front_len _ _ hfr
                rw [hbl] at this
                simp at this hj2
                exact ⟨j + (k - star) + j2, by omega, by omega, by rw [show j + (k - star) + j2 = j + ((k - star) + j2) by omega]; first | exact h | (rw [← Nat.add_assoc] at *; exact h)⟩
              · rintro ⟨j, h1, h2, h⟩
                refine ⟨from_, Nat.le_refl _, by omega, ?_⟩
                rw [hp, mt_block _ _ g4, Bool.and_eq_true, hbl, hdrop, mt_any _ _ hany]
                refine ⟨g5, j - at_, by simp; omega, ?_⟩
                rw [List.drop_drop, List.drop_drop]
                have e : from_ + (k - star) + (j - at_) = j := by omega
                first | (rw [e]; exact h) | (rw [show from_ + (k - star + (j - at_)) = j by omega]; exact h)
      · rw [if_neg h1]
        by_cases h2 : k < l.length ∧ (l.getD k ⟨false, false, fun _ => false⟩).set (s.getD at_ 0).toNat = true
        · rw [if_pos h2]
          obtain ⟨hkl, hset⟩ := h2
          have hget : l.getD k ⟨false, false, fun _ => false⟩ = l[k] := by simp [List.getD_eq_getElem?_getD, hkl]
          have hsat : s.getD at_ 0 = s[at_] := by simp [List.getD_eq_getElem?_getD, hlt]
          rw [hget, hsat] at hset
          have hna : l[k].any = false := by
            rw [hget] at h1
            simpa [hkl] using h1
          have hdrop : l.drop k = l[k] :: l.drop (k + 1) := List.drop_eq_getElem_cons hkl
          have hsdrop : s.drop at_ = s[at_] :: s.drop (at_ + 1) := List.drop_eq_getElem_cons hlt
          refine ih _ _ _ _ hf hst ?_ ⟨⟨by omega, by omega⟩, by omega, by omega, ?_⟩
          · unfold meas at *; omega
          · by_cases hs0 : star = 0
            · rw [if_pos hs0] at hi ⊢
              refine ⟨?_, ?_⟩
              · intro p hp
                rw [List.take_succ_eq_append_getElem hkl, List.mem_append] at hp
                rcases hp with hp | hp
                · exact hi.1 p hp
                · simp at hp; rw [hp]; exact hna
              · rw [hi.2, hdrop, hsdrop, mt]; simp [hna, hset]
            · rw [if_neg hs0] at hi ⊢
              obtain ⟨g1, g2, g3, g4, g5, g6⟩ := hi
              have hblk : (l.take (k + 1)).drop star = (l.take k).drop star ++ [l[k]] := by
                rw [List.take_succ_eq_append_getElem hkl, List.drop_append_of_le_length (by simp; omega)]
              refine ⟨by omega, by omega, by omega, ?_, ?_, g6⟩
              · intro p hp
                rw [hblk, List.mem_append] at hp
                rcases hp with hp | hp
                · exact g4 p hp
                · simp at hp; rw [hp]; exact hna
              · rw [hblk, front_snoc _ _ hna _ g5, blen l star k hk, List.drop_drop, show from_ + (k - star) = at_ by omega, hsdrop]
                exact hset
        · rw [if_neg h2]
          by_cases h3 : 0 < star
          · rw [if_pos h3]
            rw [if_neg (by omega)] at hi
            obtain ⟨g1, g2, g3, g4, g5, g6⟩ := hi
            refine ih _ _ _ _ (by omega) hst ?_ ⟨⟨Nat.le_refl _, Nat.le_refl _⟩, by omega, by omega, ?_⟩
            · have hx : (l.length + 1 - star) + (s.length + 1 - (from_ + 1)) + 1 ≤ (l.length + 1 - star) + (s.length + 1 - from_) := by omega
              have hy := Nat.mul_le_mul_right (l.length + 2) hx
              rw [Nat.succ_mul] at hy
              unfold meas at *
              omega
            · rw [if_neg (by omega)]
              refine ⟨Nat.le_refl _, Nat.le_refl _, by omega, ?_, ?_, ⟨?_⟩⟩
              · intro p hp; rw [List.drop_eq_nil_of_le (by simp; omega)] at hp; cases hp
              · rw [List.drop_eq_nil_of_le (by simp; omega)]; rfl
              · rw [g6.out]
                have hno : mt (l.drop star) (s.drop from_) = false := by
                  rw [parts l star k g1 hk, mt_block _ _ g4, blen l star k hk, List.drop_drop, show from_ + (k - star) = at_ by omega, g5, Bool.true_and]
                  have hsdrop : s.drop at_ = s[at_] :: s.drop (at_ + 1) := List.drop_eq_getElem_cons hlt
                  have hsat : s.getD at_ 0 = s[at_] := by simp [List.getD_eq_getElem?_getD, hlt]
                  by_cases hkl : k < l.length
                  · have hget : l.getD k ⟨false, false, fun _ => false⟩ = l[k] := by simp [List.getD_eq_getElem?_getD, hkl]
                    rw [hget] at h1 h2
                    rw [hsat] at h2
                    rw [List.drop_eq_getElem_cons hkl, hsdrop, mt]
                    have a1 : l[k].any = false := by simpa [hkl] using h1
                    have a2 : l[k].set s[at_].toNat = false := by simpa [hkl] using h2
                    simp [a1, a2]
                  · rw [List.drop_eq_nil_of_le (by omega), hsdrop]; simp [mt, hlt]
                constructor
                · rintro ⟨j, q1, q2, q3⟩
                  refine ⟨j, ?_, q2, q3⟩
                  rcases Nat.lt_or_ge from_ j with h | h
                  · omega
                  · have : j = from_ := by omega
                    rw [this, hno] at q3; cases q3
                · rintro ⟨j, q1, q2, q3⟩
                  exact ⟨j, by omega, q2, q3⟩
          · rw [if_neg h3]
            have hs0 : star = 0 := by omega
            rw [if_pos hs0] at hi
            rw [hi.2]
            have hsdrop : s.drop at_ = s[at_] :: s.drop (at_ + 1) := List.drop_eq_getElem_cons hlt
            have hsat : s.getD at_ 0 = s[at_] := by simp [List.getD_eq_getElem?_getD, hlt]
            by_cases hkl : k < l.length
            · have hget : l.getD k ⟨false, false, fun _ => false⟩ = l[k] := by simp [List.getD_eq_getElem?_getD, hkl]
              rw [hget] at h1 h2
              rw [hsat] at h2
              rw [List.drop_eq_getElem_cons hkl, hsdrop, mt]
              have a1 : l[k].any = false := by simpa [hkl] using h1
              have a2 : l[k].set s[at_].toNat = false := by simpa [hkl] using h2
              simp [a1, a2]
            · rw [List.drop_eq_nil_of_le (by omega), hsdrop]; simp [mt, hlt]
    · rw [if_neg hlt]
      congr 1
      have hat' : at_ = s.length := by omega
      by_cases hs0 : star = 0
      · rw [if_pos hs0] at hi
        rw [hi.2, List.drop_eq_nil_of_le (as := s) (by omega), mt_nil]
      · rw [if_neg hs0] at hi
        obtain ⟨g1, g2, g3, g4, g5, g6⟩ := hi
        have hp := parts l star k g1 hk
        have hbl := blen l star k hk
        rw [Bool.eq_iff_iff, g6.out]
        constructor
        · intro h
          refine ⟨from_, Nat.le_refl _, hf, ?_⟩
          rw [hp, mt_block _ _ g4, hbl, List.drop_drop, g5, List.drop_eq_nil_of_le (as := s) (by omega), mt_nil, h]; rfl
        · rintro ⟨j, q1, q2, q3⟩
          rw [hp, mt_block _ _ g4, Bool.and_eq_true, hbl, List.drop_drop] at q3
          have := front_len _ _ q3.1
          rw [hbl] at this
          simp at this
          have q4 := q3.2
          rw [List.drop_eq_nil_of_le (as := s) (by omega), mt_nil] at q4
          exact q4
theorem greedy_ok (l : List Pc) (s : List UInt8) : ∃ n, greedy l s n 0 0 0 0 = some (mt l s) :=
  ⟨_, greedy_is l s (mt l s) _ 0 0 0 0 (by omega) (by omega) (Nat.lt_succ_self _) ⟨⟨by omega, by omega⟩, by omega, by omega, by rw [if_pos rfl]; exact ⟨by simp, rfl⟩⟩⟩
end Go.Proofs.Ytobnljndaabkaaa.PatL
