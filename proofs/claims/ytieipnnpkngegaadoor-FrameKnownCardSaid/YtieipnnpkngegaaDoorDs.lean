/- slices.Equal over bytes; a frame brought to one that may be. -/
import Derived.Test.YtieipnnpkngegaaDoorDp
import Derived.Test.YtieipnnpkngegaaDoorRg
import Derived.Handy
import Derived.Deep.QuietTactic
import Derived.BigQuiet
namespace Go.Proofs.YtieipnnpkngegaaDoor
open Go.RowKit Go.Proofs.YtieipnnpkngegaaDoorW.PrintWords

theorem neqB {a b : Nat} (h : ¬ a = b) : ((a : Int) == (b : Int)) = false := by
  by_cases h2 : (a : Int) = (b : Int)
  · exact absurd (Int.ofNat.inj h2) h
  · simpa using h2
theorem take_succ_eq {l l' : List UInt8} {k : Nat} (hl : k < l.length) (hl' : k < l'.length) : l.take (k + 1) = l'.take (k + 1) ↔ l.take k = l'.take k ∧ l.getD k 0 = l'.getD k 0 := by
  rw [take_snoc l k hl, take_snoc l' k hl', List.getD_eq_getElem?_getD, List.getD_eq_getElem?_getD, List.getElem?_eq_getElem hl, List.getElem?_eq_getElem hl']
  constructor
  · intro h
    have := List.append_inj h (by simp; omega)
    exact ⟨this.1, by simpa using this.2⟩
  · rintro ⟨h1, h2⟩
    simp only [Option.getD_some] at h2
    rw [h1, h2]
set_option maxRecDepth 100000 in
set_option maxHeartbeats 3200000 in
theorem sequal_any (w : World) (A A' : Option Addr) (n n' c c' : Nat) (l l' : List UInt8) (hR : Rd w A n l) (hR' : Rd w A' n' l') :
    Calls Tryd.prog 50 #[.slice A n c, .slice A' n' c'] w fun e w' => e = .returned (.bool (decide (l = l'))) ∧ Keeps No w w' := by
  have HL := Lib.hid hR.len
  have HL' := Lib.hid hR'.len
  have HR := Lib.hid hR
  have HR' := Lib.hid hR'
  have hnm := hR.2.1
  clear hR hR'
  by_cases hnn : n = n'
  · subst hnn
    go_enter Tryd.func50, Tryd.ntmps50
    go_wp2
    go_loopw [13] (fun i wr => ∃ k : Nat, k ≤ n ∧ i = .int .i64 k ∧ l.take k = l'.take k ∧ Keeps No w wr) (fun i _ => n - (intOf i).toNat)
    case atStart => exact ⟨0, by omega, rfl, by simp, Keeps.refl _ _⟩
    case round =>
      obtain ⟨k, hk, rfl, ht, hkr⟩ := hrel
      have HT := Lib.hid ht
      have HK := Lib.hid hkr
      clear ht hkr
      by_cases hlt : k < n
      · obtain ⟨ad, rfl, hc⟩ := (HK.out.rdNo HR.out).at k hlt
        obtain ⟨ad', rfl, hc'⟩ := (HK.out.rdNo HR'.out).at k hlt
        have HS := Lib.hid (take_succ_eq (l := l) (l' := l') (k := k) (by have := HL.out; omega) (by have := HL'.out; omega))
        generalize l.getD k 0 = x at *
        generalize l'.getD k 0 = y at *
        have h0 : (0 : Int) ≤ (k : Int) := by omega
        have h1 : (k : Int) < (n : Int) := by omega
        by_cases hxy : x = y
        · subst hxy
          have HS1 := Lib.hid (HS.out.2 ⟨HT.out, rfl⟩)
          clear HS
          go_wp2_with fail
          go_quiet (fail)
          go_wp2
          go_roundw
          case rel => exact ⟨k + 1, by omega, by go_num, HS1.out, HK.out.drewN _⟩
          case measure => simp [intOf]; omega
        · have hb : ((x.toNat : Int) != (y.toNat : Int)) = true := by
            have : x.toNat ≠ y.toNat := fun h => hxy (UInt8.toNat_inj.1 h)
            rw [bne, neqB this]
            rfl
          have HX := Lib.hid hxy
          clear hxy
          go_wp2_with fail
          go_quiet (fail)
          go_wp2
          go_ret
          refine ⟨?_, HK.out.drewN _⟩
          refine ret_eq (congrArg Value.bool ?_)
          refine (decide_eq_false fun h => ?_).symm
          subst h
          exact HX.out (HS.out.1 rfl).2
      · obtain rfl : k = n := by omega
        go_wp2
        go_ret
        refine ⟨?_, HK.out⟩
        refine ret_eq (congrArg Value.bool ?_)
        have h := HT.out
        rw [List.take_of_length_le (by have := HL.out; omega), List.take_of_length_le (by have := HL'.out; omega)] at h
        exact (decide_eq_true h).symm
  · have hb : ((n : Int) != (n' : Int)) = true := by
      rw [bne, neqB hnn]; rfl
    have HN := Lib.hid hnn
    clear hnn
    go_enter Tryd.func50, Tryd.ntmps50
    go_wp2
    go_ret
    refine ⟨ret_eq (congrArg Value.bool (decide_eq_false fun h => ?_).symm), Keeps.refl _ _⟩
    subst h
    exact HN.out (HL.out.symm.trans HL'.out)

/-- A frame brought to one that may be. -/
def made (f : Frm) : Frm :=
  if f.kind % 5 = 2 then ⟨3, f.ses, f.ep, f.num % 2147483648, f.ack, f.mask, f.pl.take 256⟩
  else if f.kind % 5 = 3 then ⟨4, f.ses, f.ep, 0, f.ack, f.mask, []⟩
  else ⟨1 + f.kind % 5, f.ses, f.ep, 0, 0, 0, f.pl.take 256⟩
theorem made_ok (f : Frm) (h : f.Ok) : (made f).Ok := by
  have h1 := h.ses
  have h2 := h.ep
  have h3 := h.num
  have h4 := h.ack
  have h5 := h.mask
  unfold made
  split
  · exact ⟨by simp, h1, h2, by simp only; omega, h4, h5⟩
  · split
    · exact ⟨by simp, h1, h2, by simp, h4, h5⟩
    · exact ⟨by simp only; omega, h1, h2, by simp, by simp, by simp⟩
theorem made_may (f : Frm) : mayB (made f) = true := by
  rw [mayB_iff]
  unfold made
  split
  · exact ⟨by simp; omega, .inr (.inl ⟨rfl, by simp only; omega⟩)⟩
  · split
    · exact ⟨by simp, .inr (.inr ⟨rfl, rfl, rfl⟩)⟩
    · exact ⟨by simp; omega, .inl ⟨by simp only; omega, rfl, rfl, rfl⟩⟩
theorem made_len (f : Frm) : (made f).pl.length ≤ 256 := ((mayB_iff _).1 (made_may f)).1
def MEnd (w : World) (A0 : Option Addr) (f : Frm) (x : Ending) (w' : World) : Prop := ∃ A c, x = .returned (.agg ((made f).cs (.slice A (made f).pl.length c))) ∧ (∀ W, Rd W A0 f.pl.length f.pl → Rd W A (made f).pl.length (made f).pl) ∧ (made f).pl.length ≤ c ∧ Keeps No w w'
set_option maxRecDepth 100000 in
set_option maxHeartbeats 3200000 in
theorem made_any (w : World) (f : Frm) (hf : f.Ok) (A : Option Addr) (c : Nat) (hc : f.pl.length ≤ c) :
    Calls Tryd.prog 49 #[.agg (f.cs (.slice A f.pl.length c))] w (MEnd w A f) := by
  have hk := hf.kind
  have hm := hf.num
  have hmin := min_num f.pl.length 256 256 rfl
  have hqc : min f.pl.length 256 ≤ c := by omega
  have HR := Lib.hid (fun W (hR : Rd W A f.pl.length f.pl) => hR.take (min f.pl.length 256) (by omega))
  have HTL := Lib.hid (show (f.pl.take 256).length = min f.pl.length 256 from by rw [List.length_take]; omega)
  have HTE := Lib.hid (show f.pl.take (min f.pl.length 256) = f.pl.take 256 from by
    by_cases h : f.pl.length ≤ 256
    · rw [Nat.min_eq_left h, List.take_of_length_le h, List.take_of_length_le (Nat.le_refl _)]
    · rw [Nat.min_eq_right (by omega)])
  obtain ⟨kind, ses, ep, num, ack, mask, pl⟩ := f
  simp only [Frm.cs] at *
  generalize min pl.length 256 = q at *
  rcases (show kind % 5 = 0 ∨ kind % 5 = 1 ∨ kind % 5 = 2 ∨ kind % 5 = 3 ∨ kind % 5 = 4 by omega) with h | h | h | h | h
  · have hmd : made ⟨kind, ses, ep, num, ack, mask, pl⟩ = ⟨1, ses, ep, 0, 0, 0, pl.take 256⟩ := by unfold made; simp [h]
    have HMD := Lib.hid hmd
    have hr : (kind : Int) % 5 = 0 := by omega
    clear h hmd
    go_enter Tryd.func49, Tryd.ntmps49
    go_wp2
    go_returns
    unfold MEnd
    rw [HMD.out]
    simp only [Frm.cs]
    rw [HTL.out]
    exact ⟨A, c, rfl, fun W hW => HTE.out ▸ HR.out W hW, hqc, ((Keeps.refl No w).alloc _).alloc _⟩
  · have hmd : made ⟨kind, ses, ep, num, ack, mask, pl⟩ = ⟨2, ses, ep, 0, 0, 0, pl.take 256⟩ := by unfold made; simp [h]
    have HMD := Lib.hid hmd
    have hr : (kind : Int) % 5 = 1 := by omega
    clear h hmd
    go_enter Tryd.func49, Tryd.ntmps49
    go_wp2
    go_returns
    unfold MEnd
    rw [HMD.out]
    simp only [Frm.cs]
    rw [HTL.out]
    exact ⟨A, c, rfl, fun W hW => HTE.out ▸ HR.out W hW, hqc, ((Keeps.refl No w).alloc _).alloc _⟩
  · have hmd : made ⟨kind, ses, ep, num, ack, mask, pl⟩ = ⟨3, ses, ep, num % 2147483648, ack, mask, pl.take 256⟩ := by unfold made; simp [h]
    have HMD := Lib.hid hmd
    have hr : (kind : Int) % 5 = 2 := by omega
    clear h hmd
    go_enter Tryd.func49, Tryd.ntmps49
    go_wp2
    go_returns
    unfold MEnd
    rw [HMD.out]
    simp only [Frm.cs]
    rw [HTL.out]
    exact ⟨A, c, rfl, fun W hW => HTE.out ▸ HR.out W hW, hqc, ((Keeps.refl No w).alloc _).alloc _⟩
  · have hmd : made ⟨kind, ses, ep, num, ack, mask, pl⟩ = ⟨4, ses, ep, 0, ack, mask, []⟩ := by unfold made; simp [h]
    have HMD := Lib.hid hmd
    have hr : (kind : Int) % 5 = 3 := by omega
    clear h hmd
    go_enter Tryd.func49, Tryd.ntmps49
    go_wp2
    go_returns
    unfold MEnd
    rw [HMD.out]
    simp only [Frm.cs]
    exact ⟨none, 0, rfl, fun W _ => Rd.nil W, Nat.le_refl _, ((Keeps.refl No w).alloc _).alloc _⟩
  · have hmd : made ⟨kind, ses, ep, num, ack, mask, pl⟩ = ⟨5, ses, ep, 0, 0, 0, pl.take 256⟩ := by unfold made; simp [h]
    have HMD := Lib.hid hmd
    have hr : (kind : Int) % 5 = 4 := by omega
    clear h hmd
    go_enter Tryd.func49, Tryd.ntmps49
    go_wp2
    go_returns
    unfold MEnd
    rw [HMD.out]
    simp only [Frm.cs]
    rw [HTL.out]
    exact ⟨A, c, rfl, fun W hW => HTE.out ▸ HR.out W hW, hqc, ((Keeps.refl No w).alloc _).alloc _⟩
end Go.Proofs.YtieipnnpkngegaaDoor
