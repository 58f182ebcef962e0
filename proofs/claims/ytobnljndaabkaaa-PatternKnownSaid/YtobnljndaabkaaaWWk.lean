/- What wakes a law of patterns. -/
import Derived.Test.YtobnljndaabkaaaWQu
namespace Go.Proofs.Ytobnljndaabkaaa
open Go.RowKit Go.Proofs.YtobnljndaabkaaaW.PrintWords PatL

def tails : T → List T
  | [] => [[]]
  | c :: s => (c :: s) :: tails s
/-- Matching, such that the kernel reckons it. -/
def mts : List Pc → T → Bool
  | [], s => s.isEmpty
  | p :: l, s => if p.any then (tails s).any (mts l) else match s with
    | [] => false
    | c :: s => p.set c.toNat && mts l s
theorem mts_eq : ∀ (l : List Pc) (s : T), mts l s = PatL.mt l s
  | [], s => by simp [mts, PatL.mt]
  | p :: l, s => by
    unfold mts
    by_cases hp : p.any = true
    · rw [if_pos hp]
      induction s with
      | nil => simp [tails, PatL.mt, hp, mts_eq l []]
      | cons c s ih => rw [tails, List.any_cons, ih, mts_eq l, PatL.mt, if_pos hp]
    · rw [if_neg hp]
      have hp' : p.any = false := by simpa using hp
      cases s with
      | nil => simp [PatL.mt, hp']
      | cons c s => rw [PatL.mt, if_neg hp]; simp only [mts_eq l s]
theorem mtch_eq (p s : T) : mtch p s = (!point (piecesF p) s && mts (piecesF p) s) := by rw [mts_eq]; rfl
theorem match_is (w : World) (p s : ByteArray) (b : Bool) (hp : p.size ≤ 4398046511104) (hs : s.size ≤ 9223372036854775806) (h : mtch p.data.toList s.data.toList = b) :
    Calls Try.prog 10 #[.string p, .string s] w fun e w' => e = .returned (.bool b) ∧ Keeps No w w' := by
  rw [← h]
  exact match_any w p s hp hs
theorem alive_is (w : World) (p : ByteArray) (b : Bool) (hp : p.size ≤ 4398046511104) (h : alive p.data.toList = b) :
    Calls Try.prog 11 #[.string p] w fun e w' => e = .returned (.bool b) ∧ Keeps No w w' := by
  rw [← h]
  exact alive_any w p hp
theorem data_app (a b : ByteArray) : (a ++ b).data.toList = a.data.toList ++ b.data.toList := by simp
set_option maxRecDepth 100000 in
set_option maxHeartbeats 1600000 in
theorem wakes_any (w : World) : Calls Try.prog 12 #[] w fun e w' => e = .returned (.bool true) ∧ Keeps No w w' := by
  have K0 := Lib.hid (Keeps.refl No w)
  go_enter Try.func12, Try.ntmps12
  go_wp2_with fail
  refine (match_is _ _ _ true (by decide) (by decide) (by rw [mtch_eq]; decide +kernel)).mono ?_
  rintro e w1 ⟨rfl, hk⟩
  have K1 := Lib.hid (K0.out.then hk)
  clear hk
  go_wp2_with fail
  refine (match_is _ _ _ true (by decide) (by decide) (by rw [mtch_eq]; decide +kernel)).mono ?_
  rintro e w2 ⟨rfl, hk⟩
  have K2 := Lib.hid (K1.out.then hk)
  clear hk
  go_wp2_with fail
  refine (match_is _ _ _ false (by decide) (by decide) (by rw [mtch_eq]; decide +kernel)).mono ?_
  rintro e w3 ⟨rfl, hk⟩
  have K3 := Lib.hid (K2.out.then hk)
  clear hk
  go_wp2_with fail
  refine (match_is _ _ _ true (by decide) (by decide) (by rw [mtch_eq]; decide +kernel)).mono ?_
  rintro e w4 ⟨rfl, hk⟩
  have K4 := Lib.hid (K3.out.then hk)
  clear hk
  go_wp2_with fail
  refine (match_is _ _ _ false (by decide) (by decide) (by rw [mtch_eq]; decide +kernel)).mono ?_
  rintro e w5 ⟨rfl, hk⟩
  have K5 := Lib.hid (K4.out.then hk)
  clear hk
  go_wp2_with fail
  refine (match_is _ _ _ true (by decide) (by decide) (by rw [mtch_eq]; decide +kernel)).mono ?_
  rintro e w6 ⟨rfl, hk⟩
  have K6 := Lib.hid (K5.out.then hk)
  clear hk
  go_wp2_with fail
  refine (match_is _ _ _ true (by decide) (by decide) (by rw [mtch_eq]; decide +kernel)).mono ?_
  rintro e w7 ⟨rfl, hk⟩
  have K7 := Lib.hid (K6.out.then hk)
  clear hk
  go_wp2_with fail
  refine (match_is _ _ _ false (by decide) (by decide) (by rw [mtch_eq]; decide +kernel)).mono ?_
  rintro e w8 ⟨rfl, hk⟩
  have K8 := Lib.hid (K7.out.then hk)
  clear hk
  go_wp2
  go_ret
  exact ⟨rfl, K8.out⟩
end Go.Proofs.Ytobnljndaabkaaa
