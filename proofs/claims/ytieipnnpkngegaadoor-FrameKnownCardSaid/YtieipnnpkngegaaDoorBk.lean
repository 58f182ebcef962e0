/- Reading back what was laid: whole, and cut. -/
import Derived.Test.YtieipnnpkngegaaDoorScribeLaysW
import Derived.Test.YtieipnnpkngegaaDoorIs
namespace Go.Proofs.YtieipnnpkngegaaDoor
open Go.RowKit Go.Proofs.YtieipnnpkngegaaDoorW.PrintWords

theorem natBE_num (m : Nat) : ∀ n, natBE (numBE n m) = n % 256 ^ m := by
  induction m with
  | zero => intro n; simp [numBE, natBE, Nat.mod_one]
  | succ m ih =>
    intro n
    rw [numBE, natBE_snoc, ih, Nat.pow_succ, Nat.mul_comm (256 ^ m) 256, Nat.mod_mul]
    simp
    try omega
theorem takeO_full (x rest : List UInt8) (m : Nat) (h : x.length = m) : takeO ⟨x ++ rest, false⟩ m = x := by
  subst h
  unfold takeO
  rw [if_neg (by simp), if_neg (by simp), List.take_left]
theorem takeS_full (x rest : List UInt8) (m : Nat) (h : x.length = m) : takeS ⟨x ++ rest, false⟩ m = ⟨rest, false⟩ := by
  subst h
  unfold takeS
  rw [if_neg (by simp), if_neg (by simp), List.drop_left]
theorem takeS_cut (x : List UInt8) (m : Nat) (h : x.length < m) : takeS ⟨x, false⟩ m = ⟨[], true⟩ := by
  simp [takeS, h]
theorem takeO_cut (x : List UInt8) (m : Nat) (h : x.length < m) : takeO ⟨x, false⟩ m = [] := by
  simp [takeO, h]
theorem takeS_short (m : Nat) : takeS ⟨[], true⟩ m = ⟨[], true⟩ := by simp [takeS]
theorem takeO_short (m : Nat) : takeO ⟨[], true⟩ m = [] := by simp [takeO]
theorem natBE_be2 (n : Nat) (h : n < 65536) : natBE (be2 n) = n := by
  have e := natBE_num 2 n
  rw [numBE2, Nat.mod_eq_of_lt h] at e
  rw [e]
theorem textS_full (t rest : List UInt8) (h : t.length < 65536) : textS ⟨be2 t.length ++ (t ++ rest), false⟩ = ⟨rest, false⟩ := by
  unfold textS
  rw [takeO_full _ _ 2 (be2_len _), takeS_full _ _ 2 (be2_len _), natBE_be2 _ h, takeS_full _ _ _ rfl]
theorem textO_full (t rest : List UInt8) (h : t.length < 65536) : textO ⟨be2 t.length ++ (t ++ rest), false⟩ = t := by
  unfold textO
  rw [takeO_full _ _ 2 (be2_len _), takeS_full _ _ 2 (be2_len _), natBE_be2 _ h, takeO_full _ _ _ rfl]
theorem is_full (p : Pce) (hp : p.Ok) (ht : p.text.size ≤ 100) (rest : List UInt8) : isO ⟨formP p ++ rest, false⟩ p = true ∧ isS ⟨formP p ++ rest, false⟩ p = ⟨rest, false⟩ := by
  have hn := hp.num
  have hd := data_length p.text
  unfold formP isO isS
  by_cases h1 : p.what = 1
  · simp only [h1, Int.reduceEq, reduceIte]
    rw [takeO_full _ _ 1 (numBE_len _ _), takeS_full _ _ 1 (numBE_len _ _), natBE_num]
    simp
  by_cases h2 : p.what = 2
  · simp only [h2, Int.reduceEq, reduceIte]
    rw [takeO_full _ _ 2 (numBE_len _ _), takeS_full _ _ 2 (numBE_len _ _), natBE_num]
    simp
  by_cases h3 : p.what = 3
  · simp only [h3, Int.reduceEq, reduceIte]
    rw [takeO_full _ _ 4 (numBE_len _ _), takeS_full _ _ 4 (numBE_len _ _), natBE_num]
    simp
  by_cases h4 : p.what = 4
  · simp only [h4, Int.reduceEq, reduceIte]
    rw [takeO_full _ _ 8 (numBE_len _ _), takeS_full _ _ 8 (numBE_len _ _), natBE_num]
    simp
    omega
  by_cases h5 : p.what = 5
  · simp only [h5, Int.reduceEq, reduceIte]
    rw [← hd]
    have hl : p.text.data.toList.length < 65536 := by omega
    generalize p.text.data.toList = t at *
    have e := List.append_assoc (be2 t.length) t rest
    rw [e, textS_full t rest hl, textO_full t rest hl]
    simp
  · simp only [h1, h2, h3, h4, h5, if_false]
    rw [takeO_full _ _ _ hd, takeS_full _ _ _ hd]
    simp
theorem is_short (p : Pce) : isS ⟨[], true⟩ p = ⟨[], true⟩ := by
  unfold isS
  simp only [takeS_short, textS]
  simp
theorem is_cut (p : Pce) (ht : p.text.size ≤ 100) (k : Nat) (h : k < (formP p).length) : isS ⟨(formP p).take k, false⟩ p = ⟨[], true⟩ := by
  have hd := data_length p.text
  unfold formP at h ⊢
  unfold isS
  have num : ∀ n m : Nat, k < (numBE n m).length → takeS ⟨(numBE n m).take k, false⟩ m = ⟨[], true⟩ := fun n m h => takeS_cut _ _ (by rw [numBE_len] at h; rw [List.length_take, numBE_len]; omega)
  by_cases h1 : p.what = 1
  · simp only [h1, Int.reduceEq, reduceIte] at h ⊢
    exact num _ _ h
  by_cases h2 : p.what = 2
  · simp only [h2, Int.reduceEq, reduceIte] at h ⊢
    exact num _ _ h
  by_cases h3 : p.what = 3
  · simp only [h3, Int.reduceEq, reduceIte] at h ⊢
    exact num _ _ h
  by_cases h4 : p.what = 4
  · simp only [h4, Int.reduceEq, reduceIte] at h ⊢
    exact num _ _ h
  by_cases h5 : p.what = 5
  · simp only [h5, Int.reduceEq, reduceIte] at h ⊢
    rw [List.length_append, be2_len, hd] at h
    unfold textS
    by_cases hk : k < 2
    · have hx : ((be2 p.text.size ++ p.text.data.toList).take k).length < 2 := by rw [List.length_take]; omega
      rw [takeS_cut _ _ hx, takeS_short]
    · have e : (be2 p.text.size ++ p.text.data.toList).take k = be2 p.text.size ++ p.text.data.toList.take (k - 2) := by
        rw [List.take_append, be2_len, List.take_of_length_le (by rw [be2_len]; omega)]
      rw [e, takeO_full _ _ 2 (be2_len _), takeS_full _ _ 2 (be2_len _), natBE_be2 _ (by omega)]
      exact takeS_cut _ _ (by rw [List.length_take]; omega)
  · simp only [h1, h2, h3, h4, h5, if_false] at h ⊢
    exact takeS_cut _ _ (by rw [List.length_take]; omega)
/-- The reader of the cut bytes behind so many pieces. -/
def cutSt (F : List Pce) (cut : Nat) (k : Nat) : RS := if (wantF F k).length ≤ cut then ⟨((wantF F F.length).take cut).drop (wantF F k).length, false⟩ else ⟨[], true⟩
theorem wantF_split (F : List Pce) (k : Nat) (hk : k < F.length) : wantF F F.length = wantF F k ++ (formP F[k] ++ (F.drop (k + 1)).flatMap formP) := by
  unfold wantF
  rw [List.take_length, ← List.flatMap_cons, ← List.drop_eq_getElem_cons hk, ← List.flatMap_append, List.take_append_drop]
theorem cut_zero (F : List Pce) (cut : Nat) : cutSt F cut 0 = ⟨(wantF F F.length).take cut, false⟩ := by
  unfold cutSt
  rw [wantF_zero]
  simp
theorem cut_step (F : List Pce) (hok : ∀ p ∈ F, p.Ok) (ht : ∀ p ∈ F, p.text.size ≤ 100) (cut k : Nat) (hk : k < F.length) :
    isS (cutSt F cut k) F[k] = cutSt F cut (k + 1) ∧ ((wantF F (k + 1)).length ≤ cut → isO (cutSt F cut k) F[k] = true) := by
  have hw := wantF_split F k hk
  have hs := wantF_succ F k hk
  have hl : (wantF F (k + 1)).length = (wantF F k).length + (formP F[k]).length := by rw [hs, List.length_append]
  have hpo := hok _ (List.getElem_mem hk)
  have hpt := ht _ (List.getElem_mem hk)
  unfold cutSt
  by_cases h0 : (wantF F k).length ≤ cut
  · have e : ((wantF F F.length).take cut).drop (wantF F k).length = (formP F[k] ++ (F.drop (k + 1)).flatMap formP).take (cut - (wantF F k).length) := by
      rw [hw, List.drop_take, List.drop_left]
    by_cases h1 : (wantF F (k + 1)).length ≤ cut
    · have e2 : (formP F[k] ++ (F.drop (k + 1)).flatMap formP).take (cut - (wantF F k).length) = formP F[k] ++ ((F.drop (k + 1)).flatMap formP).take (cut - (wantF F (k + 1)).length) := by
        rw [List.take_append, List.take_of_length_le (by omega), Nat.sub_sub, ← hl]
      have e3 : ((wantF F F.length).take cut).drop (wantF F (k + 1)).length = ((F.drop (k + 1)).flatMap formP).take (cut - (wantF F (k + 1)).length) := by
        rw [hw, ← List.append_assoc, ← hs, List.drop_take, List.drop_left]
      rw [if_pos h0, if_pos h1, e, e2, e3]
      have h := is_full F[k] hpo hpt (((F.drop (k + 1)).flatMap formP).take (cut - (wantF F (k + 1)).length))
      exact ⟨h.2, fun _ => h.1⟩
    · have e2 : (formP F[k] ++ (F.drop (k + 1)).flatMap formP).take (cut - (wantF F k).length) = (formP F[k]).take (cut - (wantF F k).length) := by
        rw [List.take_append, show cut - (wantF F k).length - (formP F[k]).length = 0 by omega, List.take_zero, List.append_nil]
      rw [if_pos h0, if_neg h1, e, e2]
      exact ⟨is_cut _ hpt _ (by omega), fun h => absurd h h1⟩
  · rw [if_neg h0, if_neg (by omega)]
    exact ⟨is_short _, fun h => by omega⟩
theorem cut_nil (F : List Pce) (cut k : Nat) : (cutSt F cut k).short = true → (cutSt F cut k).l = [] := by
  unfold cutSt
  split <;> simp
/-- The whole reading is the cut one with nothing cut off. -/
theorem cut_whole (F : List Pce) (k : Nat) (hk : k ≤ F.length) : cutSt F (wantF F F.length).length k = ⟨(wantF F F.length).drop (wantF F k).length, false⟩ := by
  have hle : (wantF F k).length ≤ (wantF F F.length).length := by
    by_cases h : k < F.length
    · rw [wantF_split F k h, List.length_append]; omega
    · rw [show k = F.length by omega]; omega
  unfold cutSt
  rw [if_pos hle, List.take_length]
theorem cut_le (F : List Pce) (k : Nat) (hk : k ≤ F.length) : (wantF F k).length ≤ (wantF F F.length).length := by
  by_cases h : k < F.length
  · rw [wantF_split F k h, List.length_append]; omega
  · rw [show k = F.length by omega]; omega
theorem cut_len (F : List Pce) (cut k : Nat) : (cutSt F cut k).l.length ≤ (wantF F F.length).length := by
  unfold cutSt
  split
  · simp; omega
  · simp
/-- A reader that came short tells nothing more. -/
theorem short_byte {w : World} {g : Nat} (h : IsR w g ⟨[], true⟩) : Calls Tryd.prog 26 #[.pointer (some ⟨g, 0, none⟩)] w fun e w' => e = .returned (.int .u8 0) ∧ RPost w g ⟨[], true⟩ w' :=
  (rbyte_any w g _ h (by simp)).mono fun e w' h => by
    obtain ⟨he, hp⟩ := h
    rw [takeO_short] at he
    rw [takeS_short] at hp
    exact ⟨he, hp⟩
theorem short_text {w : World} {g : Nat} (h : IsR w g ⟨[], true⟩) : Calls Tryd.prog 31 #[.pointer (some ⟨g, 0, none⟩)] w fun e w' => e = .returned (.string ByteArray.empty) ∧ RPost w g ⟨[], true⟩ w' :=
  (rtext_any w g _ h (by simp)).mono fun e w' h => by
    obtain ⟨he, hp⟩ := h
    unfold textO at he
    unfold textS at hp
    rw [takeS_short, takeO_short] at he
    rw [takeS_short, takeO_short, takeS_short] at hp
    exact ⟨he, hp⟩
theorem short_take {w : World} {g : Nat} (h : IsR w g ⟨[], true⟩) : Calls Tryd.prog 24 #[.pointer (some ⟨g, 0, none⟩), .int .i64 0] w fun e w' => ∃ A c, e = .returned (.slice A 0 c) ∧ RPost w g ⟨[], true⟩ w' :=
  (take_any w g _ h 0 (by omega) (by simp)).mono fun e w' h => by
    obtain ⟨r, he, ho, hp⟩ := h
    rw [takeS_short] at hp
    rw [takeO_short] at ho
    obtain ⟨A, c, rfl, _, _⟩ := ho.rd
    exact ⟨A, c, he, hp⟩
/-- A piece's cells. -/
structure PcAt (W : World) (a : Addr) (p : Pce) : Prop where
  c0 : W.cell? a = some (.int .i64 p.what)
  c1 : W.cell? ⟨a.block, a.off + 1, none⟩ = some (.int .u64 p.n)
  c2 : W.cell? ⟨a.block, a.off + 2, none⟩ = some (.string p.text)
theorem RdP.at {w : World} {A : Option Addr} {n : Nat} {F : List Pce} (h : RdP w A n F) (k : Nat) (hk : k < F.length) : ∃ ad, A = some ad ∧ PcAt w (ad.add (k * 3)) F[k] ∧ (ad.add (k * 3)).block = ad.block := by
  obtain ⟨ad, hA, hcell⟩ := h.2.2 (by have := h.1; omega)
  obtain ⟨cs, _, hcsP, hcc⟩ := hcell k F[k] (List.getElem?_eq_getElem hk)
  have hc0 := hcc 0 (.int .i64 F[k].what) (by rw [hcsP]; rfl)
  have hc1 := hcc 1 (.int .u64 F[k].n) (by rw [hcsP]; rfl)
  have hc2 := hcc 2 (.string F[k].text) (by rw [hcsP]; rfl)
  rw [Nat.add_zero] at hc0
  rw [add_field _ _ _ (by omega)] at hc1 hc2
  exact ⟨ad, hA, ⟨hc0, hc1, hc2⟩, by unfold Addr.add; split <;> rfl⟩
theorem PcAt.kept {S : Nat → Prop} {a b : World} {ad : Addr} {p : Pce} (h : PcAt a ad p) (k : Keeps S a b) (hS : ¬ S ad.block) : PcAt b ad p := ⟨k.cell h.c0 hS, k.cell h.c1 hS, k.cell h.c2 hS⟩
end Go.Proofs.YtieipnnpkngegaaDoor
