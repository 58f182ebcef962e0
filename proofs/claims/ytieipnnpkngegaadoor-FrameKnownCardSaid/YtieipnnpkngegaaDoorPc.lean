/- Pieces: rows of them, the first few; how they are laid. -/
import Derived.Test.YtieipnnpkngegaaDoorWk
namespace Go.Proofs.YtieipnnpkngegaaDoor
open Go.RowKit Go.Proofs.YtieipnnpkngegaaDoorW.PrintWords

/-- A piece: what it is, its number, its text. -/
structure Pce where
  what : Int
  n : Nat
  text : ByteArray
def Pce.cs (p : Pce) : List Value := [.int .i64 p.what, .int .u64 p.n, .string p.text]
structure Pce.Ok (p : Pce) : Prop where
  lo : -9223372036854775808 ≤ p.what
  hi : p.what ≤ 9223372036854775807
  num : p.n < 18446744073709551616
  text : p.text.size ≤ 9223372036854775807
def RPc (p : Pce) (c : List Value) : Prop := c = p.cs
/-- Pieces that a slice reads as. -/
def RdP (w : World) (A : Option Addr) (n : Nat) (l : List Pce) : Prop := ReadsRow RPc 3 w A n l
theorem Tryd.info35 : (Tryd.prog.info? 35).map (fun i => (i.zero, i.size, i.bytes)) = some (some (.agg #[.int .i64 0, .int .u64 0, .string ByteArray.empty]), 3, 32) := by kernel_rfl
/-- A piece of a text of at most 100 bytes. -/
def cutP (p : Pce) : Pce := { p with text := p.text.extract 0 (min p.text.size 100) }
def fewP (l : List Pce) (most : Nat) : List Pce := (l.take most).map cutP
theorem fewP_zero (l : List Pce) (most : Nat) : fewP (l.take 0) most = [] := by simp [fewP]
def csP (l : List Pce) : List Value := l.flatMap Pce.cs

set_option maxRecDepth 100000 in
set_option maxHeartbeats 3200000 in
theorem few_any (w : World) (A : Option Addr) (n c : Nat) (l : List Pce) (hR : RdP w A n l) (hok : ∀ p ∈ l, p.Ok) (most : Nat) (hm : most ≤ 100) :
    Calls Tryd.prog 17 #[.slice A n c, .int .i64 most] w fun e w' => ∃ r, e = .returned r ∧ w'.ownsRow w.heap.size 35 3 r (fewP l most).length (csP (fewP l most)) ∧ Keeps No w w' := by
  have hn : n ≤ 9223372036854775807 := hR.2.1
  go_enter Tryd.func17, Tryd.ntmps17
  go_wp2
  go_loopw [5, 10] (fun v i wr => ∃ k : Nat, k ≤ n ∧ i = .int .i64 k ∧ wr.ownsRow w.heap.size 35 3 v (fewP (l.take k) most).length (csP (fewP (l.take k) most)) ∧ Keeps No w wr) (fun _ i _ => n - (intOf i).toNat)
  case atStart => exact ⟨0, by omega, rfl, by rw [fewP_zero]; exact own_nil _ _ _ _, Keeps.refl _ _⟩
  case round =>
    obtain ⟨k, hk, rfl, ho, hkk⟩ := hrel
    have HO := Lib.hid ho
    have HK := Lib.hid hkk
    clear ho hkk
    by_cases hkn : k < n
    · have hkl : k < l.length := by have := hR.1; omega
      obtain ⟨ad, hA, hcell⟩ := hR.2.2 (by omega)
      obtain ⟨cs, hcs3, hcsP, hcc⟩ := hcell k l[k] (List.getElem?_eq_getElem hkl)
      have hpok := hok l[k] (List.getElem_mem hkl)
      generalize hp : l[k] = p at *
      have hc0 := HK.out.cell (hcc 0 (.int .i64 p.what) (by rw [hcsP]; rfl)) (fun h => h)
      have hc1 := HK.out.cell (hcc 1 (.int .u64 p.n) (by rw [hcsP]; rfl)) (fun h => h)
      have hc2 := HK.out.cell (hcc 2 (.string p.text) (by rw [hcsP]; rfl)) (fun h => h)
      rw [Nat.add_zero] at hc0
      rw [add_field _ _ _ (by omega)] at hc1 hc2
      clear hcc hcell hcsP hcs3
      subst hA
      have HPK := Lib.hid hpok
      have HP := Lib.hid hp
      clear hpok hp
      have hmin := min_num p.text.size 100 100 rfl
      by_cases hlt : k < most
      · have hfl : (fewP (l.take k) most).length ≤ 100 := by simp [fewP]; omega
        have hex : fewP (l.take (k + 1)) most = fewP (l.take k) most ++ [cutP p] := by
          unfold fewP
          rw [take_snoc l k hkl, HP.out, List.take_append, List.map_append]
          have : ([p].take (most - (l.take k).length)) = [p] := by rw [List.take_of_length_le]; simp; omega
          rw [this]; rfl
        have HE := Lib.hid hex
        clear hex
        have h1 : ∀ u ∈ [Value.int .i64 p.what, .int .u64 p.n, .string (p.text.extract 0 (min p.text.size 100))], u.oneCell' = true := by intro u hu; simp at hu; rcases hu with rfl | rfl | rfl <;> rfl
        have H1 := Lib.hid h1
        clear h1
        have hws := HK.out.size
        go_wp2_with (at_builtin; refine app_cells w.heap.size (wr.heap.size + 1) rfl (.tmp 26) (.tmp 28) 27 35 (.agg #[.int .i64 0, .int .u64 0, .string ByteArray.empty]) 3 32 rfl Tryd.underlying27 Tryd.info35 rfl (by decide) (by decide) _ (fewP (l.take k) most).length (csP (fewP (l.take k) most)) [.int .i64 p.what, .int .u64 p.n, .string (p.text.extract 0 (min p.text.size 100))] rfl rfl (by simp) rfl H1.out (by exact HO.out.alloc _) (Below.refl _ _) (by simp; omega) (by omega) ?_; intro v1 w1 hown hB hgr hat)
        have HO1 := Lib.hid hown
        have HK1 := Lib.hid ((HK.out.alloc (.cells #[.int .i64 p.what, .int .u64 p.n, .string (p.text.extract 0 (min p.text.size 100))] 35)).grown hgr (fun q hq => .inr (own_base HO.out q hq)))
        clear hown hB hgr hat
        go_wp2
        go_roundw
        case rel =>
          refine ⟨k + 1, by omega, by go_num, ?_, HK1.out⟩
          rw [HE.out]
          have h := HO1.out
          have e : csP (fewP (l.take k) most ++ [cutP p]) = csP (fewP (l.take k) most) ++ [.int .i64 p.what, .int .u64 p.n, .string (p.text.extract 0 (min p.text.size 100))] := by
            simp [csP, List.flatMap_append, Pce.cs, cutP]
          rw [e, List.length_append]
          exact h
        case measure => simp [intOf]; omega
      · have hex : fewP (l.take (k + 1)) most = fewP (l.take k) most := by
          unfold fewP
          rw [List.take_take, List.take_take, show min most (k + 1) = min most k by omega]
        have HE := Lib.hid hex
        clear hex
        go_wp2
        go_roundw
        case rel =>
          refine ⟨k + 1, by omega, by go_num, ?_, HK.out.alloc _⟩
          rw [HE.out]
          exact HO.out.alloc _
        case measure => simp [intOf]; omega
    · have ht : l.take k = l := List.take_of_length_le (by have := hR.1; omega)
      have HT := Lib.hid ht
      clear ht
      go_wp2
      go_ret
      exact ⟨_, rfl, by have := HO.out; rw [HT.out] at this; exact this, HK.out⟩
end Go.Proofs.YtieipnnpkngegaaDoor
