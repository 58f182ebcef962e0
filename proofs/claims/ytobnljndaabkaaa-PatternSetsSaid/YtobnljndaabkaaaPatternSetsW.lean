/- The walk of the law PatternSets. -/
import Derived.Test.YtobnljndaabkaaaWWk
import Derived.Lib.ConvBytes
namespace Go.Proofs.Ytobnljndaabkaaa
open Go.RowKit Go.Proofs.YtobnljndaabkaaaW.PrintWords PatL

def inB (f t o c : UInt8) : Bool := (decide (f.toNat ≤ c.toNat) && decide (c.toNat ≤ t.toNat)) || decide (c.toNat = o.toNat)
def setT (f t o : UInt8) (r : T) : T := 92 :: f :: 45 :: 92 :: t :: 92 :: o :: r
theorem set_clo (first : Bool) (hb : first = true) (f t o : UInt8) (r : T) : cloF first (fun _ => false) (setT f t o (93 :: r)) = (fun x => (decide (f.toNat ≤ x) && decide (x ≤ t.toNat)) || (decide (o.toNat ≤ x) && decide (x ≤ o.toNat)), 93 :: r) := by
  subst hb
  unfold setT
  rw [cloF_go _ _ _ _ (by simp)]
  have h1 : item (92 :: f :: 45 :: 92 :: t :: 92 :: o :: 93 :: r) = (f, t, 92 :: o :: 93 :: r) := by simp [item, taken]
  rw [h1]
  simp only
  rw [cloF_go _ _ _ _ (by simp)]
  have h2 : item (92 :: o :: 93 :: r) = (o, o, 93 :: r) := by
    cases r <;> simp [item, taken]
  rw [h2]
  simp only
  rw [cloF_stop]
  first | rfl | (congr 1; funext x; simp [addR])
theorem closed_pos (f t o : UInt8) (r : T) : closed (setT f t o (93 :: r)) = some (not_ false (cloF true (fun _ => false) (setT f t o (93 :: r))).1, r) := by
  have hb : bang (setT f t o (93 :: r)) = (false, setT f t o (93 :: r)) := rfl
  unfold closed
  rw [hb, set_clo true rfl]
theorem closed_neg (f t o : UInt8) (r : T) : closed (33 :: setT f t o (93 :: r)) = some (not_ true (cloF true (fun _ => false) (setT f t o (93 :: r))).1, r) := by
  have hb : bang (33 :: setT f t o (93 :: r)) = (true, setT f t o (93 :: r)) := rfl
  unfold closed
  rw [hb, set_clo true rfl]
theorem set_mem (f t o c : UInt8) (r : T) (nb : Bool) : not_ nb (cloF true (fun _ => false) (setT f t o (93 :: r))).1 c.toNat = (inB f t o c != nb) := by
  rw [set_clo true rfl]
  unfold not_ inB
  have : (decide (o.toNat ≤ c.toNat) && decide (c.toNat ≤ o.toNat)) = decide (c.toNat = o.toNat) := by
    rw [Bool.eq_iff_iff]; simp; omega
  simp only [this]
theorem piece_pos (f t o : UInt8) (r : T) : piece (91 :: setT f t o (93 :: r)) = (⟨false, false, not_ false (cloF true (fun _ => false) (setT f t o (93 :: r))).1⟩, r) := by
  have h := closed_pos f t o r
  unfold piece
  simp only [h]
theorem piece_neg (f t o : UInt8) (r : T) : piece (91 :: 33 :: setT f t o (93 :: r)) = (⟨false, false, not_ true (cloF true (fun _ => false) (setT f t o (93 :: r))).1⟩, r) := by
  have h := closed_neg f t o r
  unfold piece
  simp only [h]
def ptB (c : UInt8) : Bool := decide (c.toNat = 46)
theorem pt46 (c : UInt8) : decide (c = 46) = ptB c := by
  unfold ptB
  rw [decide_eq_decide]
  constructor
  · rintro rfl; rfl
  · intro h; exact UInt8.toNat_inj.1 h
section
variable (f t o c : UInt8)
theorem law1 : mtch (91 :: setT f t o [93]) [c] = (inB f t o c && !ptB c) := by
  unfold mtch
  rw [piecesF_cons _ (by simp), piece_pos]
  simp [piecesF_nil, point, PatL.mt, set_mem, pt46]
  cases ptB c <;> simp
theorem law2 : mtch (91 :: 33 :: setT f t o [93]) [c] = (!inB f t o c && !ptB c) := by
  unfold mtch
  rw [piecesF_cons _ (by simp), piece_neg]
  simp [piecesF_nil, point, PatL.mt, set_mem, pt46]
  cases ptB c <;> simp
theorem pieces_x (l : T) : piecesF (120 :: l) = one 120 :: piecesF l := by
  rw [piecesF_cons _ (by simp)]
  have : piece (120 :: l) = (one 120, l) := by
    rw [piece_plain rfl (by decide) (by decide) (by decide)]
    cases l <;> simp [taken]
  rw [this]
theorem law3 : mtch (120 :: 91 :: setT f t o [93]) [120, c] = inB f t o c := by
  unfold mtch
  rw [pieces_x, piecesF_cons _ (by simp), piece_pos]
  simp [piecesF_nil, point, PatL.mt, set_mem, one]
theorem law4 : mtch (120 :: 91 :: 33 :: setT f t o [93]) [120, c] = !inB f t o c := by
  unfold mtch
  rw [pieces_x, piecesF_cons _ (by simp), piece_neg]
  simp [piecesF_nil, point, PatL.mt, set_mem, one]
theorem law5 : mtch [63] [c] = !ptB c := by
  unfold mtch
  rw [piecesF_cons _ (by simp), show piece [63] = (⟨false, false, fun _ => true⟩, []) from rfl]
  simp [piecesF_nil, point, PatL.mt, pt46]
theorem law6 : mtch [42] [c] = !ptB c := by
  unfold mtch
  rw [piecesF_cons _ (by simp), show piece [42] = (star, []) from rfl]
  simp [piecesF_nil, point, PatL.mt, pt46, star]
theorem law7 : mtch [92, c] [c] = true := by
  unfold mtch
  rw [piecesF_cons _ (by simp), piece_plain rfl (by decide) (by decide) (by decide)]
  simp [taken, piecesF_nil, point, PatL.mt, one]
  by_cases h : c = 46
  · exact .inr (by rw [h]; rfl)
  · exact .inl h
theorem law8 : alive (91 :: setT f t o [93]) = true := by
  unfold alive
  rw [piecesF_cons _ (by simp), piece_pos]
  simp
end
theorem alive_is (w : World) (p : ByteArray) (b : Bool) (hp : p.size ≤ 4398046511104) (h : alive p.data.toList = b) :
    Calls Try.prog 11 #[.string p] w fun e w' => e = .returned (.bool b) ∧ Keeps No w w' := by
  rw [← h]
  exact alive_any w p hp
theorem q_any (w : World) (c : UInt8) : Calls Try.prog 9 #[.int .u8 c.toNat] w fun e w' => e = .returned (.string ⟨#[92, c]⟩) ∧ Keeps No w w' := by
  have hcv : (convert 22 9 (.slice (some ⟨w.heap.size, 0, none⟩) 1 1)).run Try.prog (w.alloc (.cells #[.int .u8 c.toNat] 5)) = .ok (.string ⟨[c].toArray⟩) (w.alloc (.cells #[.int .u8 c.toNat] 5)) :=
    rd_string (P := Try.prog) Try.underlying22 Try.underlying5 Try.underlying9 (rd_mark w _ _ [c] 1 _ (by simp [encs, B8]) rfl (by omega) rfl) 1
  go_enter Try.func9, Try.ntmps9
  go_wp2
  go_ret
  exact ⟨ret_eq (str_eq rfl), (Keeps.refl No w).alloc _⟩
theorem data_app (a b : ByteArray) : (a ++ b).data.toList = a.data.toList ++ b.data.toList := by simp
set_option maxRecDepth 100000 in
set_option maxHeartbeats 6400000 in
theorem patternSets_walk (w : World) (f t o c : UInt8) : Calls Try.prog 3 #[.int .u8 f.toNat, .int .u8 t.toNat, .int .u8 o.toNat, .int .u8 c.toNat] w fun e w' => e = .returned (.bool true) ∧ Keeps No w w' := by
  have K0 := Lib.hid (Keeps.refl No w)
  go_enter Try.func3, Try.ntmps3
  go_wp2_with fail
  refine (q_any _ f).mono ?_
  rintro e w1 ⟨rfl, hk⟩
  have K1 := Lib.hid (K0.out.then hk)
  clear hk
  go_wp2_with fail
  go_wp2_with fail
  refine (q_any _ t).mono ?_
  rintro e w2 ⟨rfl, hk⟩
  have K2 := Lib.hid (K1.out.then hk)
  clear hk
  go_wp2_with fail
  refine (q_any _ o).mono ?_
  rintro e w3 ⟨rfl, hk⟩
  have K3 := Lib.hid (K2.out.then hk)
  clear hk
  have hcv : (convert 22 9 (.slice (some ⟨w3.heap.size, 0, none⟩) 1 1)).run Try.prog (w3.alloc (.cells #[.int .u8 c.toNat] 5)) = .ok (.string ⟨[c].toArray⟩) (w3.alloc (.cells #[.int .u8 c.toNat] 5)) :=
    rd_string (P := Try.prog) Try.underlying22 Try.underlying5 Try.underlying9 (rd_mark w3 _ _ [c] 1 _ (by simp [encs, B8]) rfl (by omega) rfl) 1
  have K4 := Lib.hid (K3.out.alloc (.cells #[.int .u8 c.toNat] 5))
  have hin : (f.toNat ≤ c.toNat ∧ c.toNat ≤ t.toNat ∧ inB f t o c = true) ∨ (¬ (f.toNat ≤ c.toNat ∧ c.toNat ≤ t.toNat) ∧ c.toNat = o.toNat ∧ inB f t o c = true) ∨ (¬ (f.toNat ≤ c.toNat ∧ c.toNat ≤ t.toNat) ∧ ¬ c.toNat = o.toNat ∧ inB f t o c = false) := by
    unfold inB
    by_cases h12 : f.toNat ≤ c.toNat ∧ c.toNat ≤ t.toNat
    · exact .inl ⟨h12.1, h12.2, by simp [h12.1, h12.2]⟩
    · have hb : (decide (f.toNat ≤ c.toNat) && decide (c.toNat ≤ t.toNat)) = false := by
        rw [Bool.eq_false_iff]; intro h; simp at h; exact h12 h
      rw [hb]
      by_cases h3 : c.toNat = o.toNat
      · exact .inr (.inl ⟨h12, h3, by simp [h3]⟩)
      · exact .inr (.inr ⟨h12, h3, by simp [h3]⟩)
  have hpt : (((c.toNat : Int) == 46) = true ∧ ptB c = true) ∨ (((c.toNat : Int) == 46) = false ∧ ptB c = false) := by
    unfold ptB
    by_cases h : c.toNat = 46
    · exact .inl ⟨by rw [h]; rfl, by simp [h]⟩
    · exact .inr ⟨by simpa using fun e : (c.toNat : Int) = 46 => h (by omega), by simp [h]⟩
  rcases hpt with ⟨hp, hpb⟩ | ⟨hp, hpb⟩
  · have HPB := Lib.hid hpb
    clear hpb
    rcases hin with ⟨h1, h2, hi⟩ | ⟨h12, h3, hi⟩ | ⟨h12, h3, hi⟩
    · have HIN := Lib.hid hi
      have g1 : decide (f.toNat ≤ c.toNat) = true := by simpa using h1
      have g2 : decide (c.toNat ≤ t.toNat) = true := by simpa using h2
      clear hi
      go_wp2_with fail
      refine (match_is _ _ _ false (by rw [← data_length]; simp) (by rw [← data_length]; simp) (by simp only [data_app]; exact (law1 f t o c).trans (by (try rw [HIN.out]); (try rw [HPB.out]); (try rfl)))).mono ?_
      rintro e w5 ⟨rfl, hk⟩
      have K5 := Lib.hid (K4.out.then hk)
      clear hk
      go_wp2_with fail
      refine (match_is _ _ _ false (by rw [← data_length]; simp) (by rw [← data_length]; simp) (by simp only [data_app]; exact (law2 f t o c).trans (by (try rw [HIN.out]); (try rw [HPB.out]); (try rfl)))).mono ?_
      rintro e w6 ⟨rfl, hk⟩
      have K6 := Lib.hid (K5.out.then hk)
      clear hk
      go_wp2_with fail
      refine (match_is _ _ _ true (by rw [← data_length]; simp) (by rw [← data_length]; simp) (by simp only [data_app]; exact (law3 f t o c).trans (by (try rw [HIN.out]); (try rw [HPB.out]); (try rfl)))).mono ?_
      rintro e w7 ⟨rfl, hk⟩
      have K7 := Lib.hid (K6.out.then hk)
      clear hk
      go_wp2_with fail
      refine (match_is _ _ _ false (by rw [← data_length]; simp) (by rw [← data_length]; simp) (by simp only [data_app]; exact (law4 f t o c).trans (by (try rw [HIN.out]); (try rw [HPB.out]); (try rfl)))).mono ?_
      rintro e w8 ⟨rfl, hk⟩
      have K8 := Lib.hid (K7.out.then hk)
      clear hk
      go_wp2_with fail
      refine (match_is _ _ _ false (by rw [← data_length]; simp) (by rw [← data_length]; simp) (by simp only [data_app]; exact (law5 c).trans (by (try rw [HIN.out]); (try rw [HPB.out]); (try rfl)))).mono ?_
      rintro e w9 ⟨rfl, hk⟩
      have K9 := Lib.hid (K8.out.then hk)
      clear hk
      go_wp2_with fail
      refine (match_is _ _ _ false (by rw [← data_length]; simp) (by rw [← data_length]; simp) (by simp only [data_app]; exact (law6 c).trans (by (try rw [HIN.out]); (try rw [HPB.out]); (try rfl)))).mono ?_
      rintro e w10 ⟨rfl, hk⟩
      have K10 := Lib.hid (K9.out.then hk)
      clear hk
      go_wp2_with fail
      refine (match_is _ _ _ false (by rw [← data_length]; simp) (by rw [← data_length]; simp) (by rw [mtch_eq]; decide +kernel)).mono ?_
      rintro e w11 ⟨rfl, hk⟩
      have K11 := Lib.hid (K10.out.then hk)
      clear hk
      go_wp2_with fail
      refine (match_is _ _ _ true (by rw [← data_length]; simp) (by rw [← data_length]; simp) (by rw [mtch_eq]; decide +kernel)).mono ?_
      rintro e w12 ⟨rfl, hk⟩
      have K12 := Lib.hid (K11.out.then hk)
      clear hk
      go_wp2_with fail
      refine (q_any _ c).mono ?_
      rintro e w13 ⟨rfl, hk⟩
      have K13 := Lib.hid (K12.out.then hk)
      clear hk
      go_wp2_with fail
      refine (match_is _ _ _ true (by rw [← data_length]; simp) (by rw [← data_length]; simp) (by simp only [data_app]; exact (law7 c).trans (by (try rw [HIN.out]); (try rw [HPB.out]); (try rfl)))).mono ?_
      rintro e w14 ⟨rfl, hk⟩
      have K14 := Lib.hid (K13.out.then hk)
      clear hk
      go_wp2_with fail
      refine (alive_is _ _ true (by rw [← data_length]; simp) (by simp only [data_app]; exact law8 f t o)).mono ?_
      rintro e w15 ⟨rfl, hk⟩
      have K15 := Lib.hid (K14.out.then hk)
      clear hk
      go_wp2_with fail
      refine (wakes_any _).mono ?_
      rintro e w16 ⟨rfl, hk⟩
      have K16 := Lib.hid (K15.out.then hk)
      clear hk
      go_wp2
      go_ret
      exact ⟨rfl, K16.out⟩
    · have HIN := Lib.hid hi
      have g3 : ((c.toNat : Int) == (o.toNat : Int)) = true := by rw [h3]; simp
      clear hi h3
      by_cases h1 : f.toNat ≤ c.toNat
      · have h2 : t.toNat < c.toNat := by omega
        have g1 : decide (f.toNat ≤ c.toNat) = true := by simpa using h1
        have g2 : decide (c.toNat ≤ t.toNat) = false := by simpa using h2
        clear h12
        go_wp2_with fail
        refine (match_is _ _ _ false (by rw [← data_length]; simp) (by rw [← data_length]; simp) (by simp only [data_app]; exact (law1 f t o c).trans (by (try rw [HIN.out]); (try rw [HPB.out]); (try rfl)))).mono ?_
        rintro e w5 ⟨rfl, hk⟩
        have K5 := Lib.hid (K4.out.then hk)
        clear hk
        go_wp2_with fail
        refine (match_is _ _ _ false (by rw [← data_length]; simp) (by rw [← data_length]; simp) (by simp only [data_app]; exact (law2 f t o c).trans (by (try rw [HIN.out]); (try rw [HPB.out]); (try rfl)))).mono ?_
        rintro e w6 ⟨rfl, hk⟩
        have K6 := Lib.hid (K5.out.then hk)
        clear hk
        go_wp2_with fail
        refine (match_is _ _ _ true (by rw [← data_length]; simp) (by rw [← data_length]; simp) (by simp only [data_app]; exact (law3 f t o c).trans (by (try rw [HIN.out]); (try rw [HPB.out]); (try rfl)))).mono ?_
        rintro e w7 ⟨rfl, hk⟩
        have K7 := Lib.hid (K6.out.then hk)
        clear hk
        go_wp2_with fail
        refine (match_is _ _ _ false (by rw [← data_length]; simp) (by rw [← data_length]; simp) (by simp only [data_app]; exact (law4 f t o c).trans (by (try rw [HIN.out]); (try rw [HPB.out]); (try rfl)))).mono ?_
        rintro e w8 ⟨rfl, hk⟩
        have K8 := Lib.hid (K7.out.then hk)
        clear hk
        go_wp2_with fail
        refine (match_is _ _ _ false (by rw [← data_length]; simp) (by rw [← data_length]; simp) (by simp only [data_app]; exact (law5 c).trans (by (try rw [HIN.out]); (try rw [HPB.out]); (try rfl)))).mono ?_
        rintro e w9 ⟨rfl, hk⟩
        have K9 := Lib.hid (K8.out.then hk)
        clear hk
        go_wp2_with fail
        refine (match_is _ _ _ false (by rw [← data_length]; simp) (by rw [← data_length]; simp) (by simp only [data_app]; exact (law6 c).trans (by (try rw [HIN.out]); (try rw [HPB.out]); (try rfl)))).mono ?_
        rintro e w10 ⟨rfl, hk⟩
        have K10 := Lib.hid (K9.out.then hk)
        clear hk
        go_wp2_with fail
        refine (match_is _ _ _ false (by rw [← data_length]; simp) (by rw [← data_length]; simp) (by rw [mtch_eq]; decide +kernel)).mono ?_
        rintro e w11 ⟨rfl, hk⟩
        have K11 := Lib.hid (K10.out.then hk)
        clear hk
        go_wp2_with fail
        refine (match_is _ _ _ true (by rw [← data_length]; simp) (by rw [← data_length]; simp) (by rw [mtch_eq]; decide +kernel)).mono ?_
        rintro e w12 ⟨rfl, hk⟩
        have K12 := Lib.hid (K11.out.then hk)
        clear hk
        go_wp2_with fail
        refine (q_any _ c).mono ?_
        rintro e w13 ⟨rfl, hk⟩
        have K13 := Lib.hid (K12.out.then hk)
        clear hk
        go_wp2_with fail
        refine (match_is _ _ _ true (by rw [← data_length]; simp) (by rw [← data_length]; simp) (by simp only [data_app]; exact (law7 c).trans (by (try rw [HIN.out]); (try rw [HPB.out]); (try rfl)))).mono ?_
        rintro e w14 ⟨rfl, hk⟩
        have K14 := Lib.hid (K13.out.then hk)
        clear hk
        go_wp2_with fail
        refine (alive_is _ _ true (by rw [← data_length]; simp) (by simp only [data_app]; exact law8 f t o)).mono ?_
        rintro e w15 ⟨rfl, hk⟩
        have K15 := Lib.hid (K14.out.then hk)
        clear hk
        go_wp2_with fail
        refine (wakes_any _).mono ?_
        rintro e w16 ⟨rfl, hk⟩
        have K16 := Lib.hid (K15.out.then hk)
        clear hk
        go_wp2
        go_ret
        exact ⟨rfl, K16.out⟩
      · have h2 : c.toNat < f.toNat := by omega
        have g1 : decide (f.toNat ≤ c.toNat) = false := by simpa using h2
        clear h12 h1
        go_wp2_with fail
        refine (match_is _ _ _ false (by rw [← data_length]; simp) (by rw [← data_length]; simp) (by simp only [data_app]; exact (law1 f t o c).trans (by (try rw [HIN.out]); (try rw [HPB.out]); (try rfl)))).mono ?_
        rintro e w5 ⟨rfl, hk⟩
        have K5 := Lib.hid (K4.out.then hk)
        clear hk
        go_wp2_with fail
        refine (match_is _ _ _ false (by rw [← data_length]; simp) (by rw [← data_length]; simp) (by simp only [data_app]; exact (law2 f t o c).trans (by (try rw [HIN.out]); (try rw [HPB.out]); (try rfl)))).mono ?_
        rintro e w6 ⟨rfl, hk⟩
        have K6 := Lib.hid (K5.out.then hk)
        clear hk
        go_wp2_with fail
        refine (match_is _ _ _ true (by rw [← data_length]; simp) (by rw [← data_length]; simp) (by simp only [data_app]; exact (law3 f t o c).trans (by (try rw [HIN.out]); (try rw [HPB.out]); (try rfl)))).mono ?_
        rintro e w7 ⟨rfl, hk⟩
        have K7 := Lib.hid (K6.out.then hk)
        clear hk
        go_wp2_with fail
        refine (match_is _ _ _ false (by rw [← data_length]; simp) (by rw [← data_length]; simp) (by simp only [data_app]; exact (law4 f t o c).trans (by (try rw [HIN.out]); (try rw [HPB.out]); (try rfl)))).mono ?_
        rintro e w8 ⟨rfl, hk⟩
        have K8 := Lib.hid (K7.out.then hk)
        clear hk
        go_wp2_with fail
        refine (match_is _ _ _ false (by rw [← data_length]; simp) (by rw [← data_length]; simp) (by simp only [data_app]; exact (law5 c).trans (by (try rw [HIN.out]); (try rw [HPB.out]); (try rfl)))).mono ?_
        rintro e w9 ⟨rfl, hk⟩
        have K9 := Lib.hid (K8.out.then hk)
        clear hk
        go_wp2_with fail
        refine (match_is _ _ _ false (by rw [← data_length]; simp) (by rw [← data_length]; simp) (by simp only [data_app]; exact (law6 c).trans (by (try rw [HIN.out]); (try rw [HPB.out]); (try rfl)))).mono ?_
        rintro e w10 ⟨rfl, hk⟩
        have K10 := Lib.hid (K9.out.then hk)
        clear hk
        go_wp2_with fail
        refine (match_is _ _ _ false (by rw [← data_length]; simp) (by rw [← data_length]; simp) (by rw [mtch_eq]; decide +kernel)).mono ?_
        rintro e w11 ⟨rfl, hk⟩
        have K11 := Lib.hid (K10.out.then hk)
        clear hk
        go_wp2_with fail
        refine (match_is _ _ _ true (by rw [← data_length]; simp) (by rw [← data_length]; simp) (by rw [mtch_eq]; decide +kernel)).mono ?_
        rintro e w12 ⟨rfl, hk⟩
        have K12 := Lib.hid (K11.out.then hk)
        clear hk
        go_wp2_with fail
        refine (q_any _ c).mono ?_
        rintro e w13 ⟨rfl, hk⟩
        have K13 := Lib.hid (K12.out.then hk)
        clear hk
        go_wp2_with fail
        refine (match_is _ _ _ true (by rw [← data_length]; simp) (by rw [← data_length]; simp) (by simp only [data_app]; exact (law7 c).trans (by (try rw [HIN.out]); (try rw [HPB.out]); (try rfl)))).mono ?_
        rintro e w14 ⟨rfl, hk⟩
        have K14 := Lib.hid (K13.out.then hk)
        clear hk
        go_wp2_with fail
        refine (alive_is _ _ true (by rw [← data_length]; simp) (by simp only [data_app]; exact law8 f t o)).mono ?_
        rintro e w15 ⟨rfl, hk⟩
        have K15 := Lib.hid (K14.out.then hk)
        clear hk
        go_wp2_with fail
        refine (wakes_any _).mono ?_
        rintro e w16 ⟨rfl, hk⟩
        have K16 := Lib.hid (K15.out.then hk)
        clear hk
        go_wp2
        go_ret
        exact ⟨rfl, K16.out⟩
    · have HIN := Lib.hid hi
      have g3 : ((c.toNat : Int) == (o.toNat : Int)) = false := by simpa using fun e : (c.toNat : Int) = o.toNat => h3 (by omega)
      clear hi h3
      by_cases h1 : f.toNat ≤ c.toNat
      · have h2 : t.toNat < c.toNat := by omega
        have g1 : decide (f.toNat ≤ c.toNat) = true := by simpa using h1
        have g2 : decide (c.toNat ≤ t.toNat) = false := by simpa using h2
        clear h12
        go_wp2_with fail
        refine (match_is _ _ _ false (by rw [← data_length]; simp) (by rw [← data_length]; simp) (by simp only [data_app]; exact (law1 f t o c).trans (by (try rw [HIN.out]); (try rw [HPB.out]); (try rfl)))).mono ?_
        rintro e w5 ⟨rfl, hk⟩
        have K5 := Lib.hid (K4.out.then hk)
        clear hk
        go_wp2_with fail
        refine (match_is _ _ _ false (by rw [← data_length]; simp) (by rw [← data_length]; simp) (by simp only [data_app]; exact (law2 f t o c).trans (by (try rw [HIN.out]); (try rw [HPB.out]); (try rfl)))).mono ?_
        rintro e w6 ⟨rfl, hk⟩
        have K6 := Lib.hid (K5.out.then hk)
        clear hk
        go_wp2_with fail
        refine (match_is _ _ _ false (by rw [← data_length]; simp) (by rw [← data_length]; simp) (by simp only [data_app]; exact (law3 f t o c).trans (by (try rw [HIN.out]); (try rw [HPB.out]); (try rfl)))).mono ?_
        rintro e w7 ⟨rfl, hk⟩
        have K7 := Lib.hid (K6.out.then hk)
        clear hk
        go_wp2_with fail
        refine (match_is _ _ _ true (by rw [← data_length]; simp) (by rw [← data_length]; simp) (by simp only [data_app]; exact (law4 f t o c).trans (by (try rw [HIN.out]); (try rw [HPB.out]); (try rfl)))).mono ?_
        rintro e w8 ⟨rfl, hk⟩
        have K8 := Lib.hid (K7.out.then hk)
        clear hk
        go_wp2_with fail
        refine (match_is _ _ _ false (by rw [← data_length]; simp) (by rw [← data_length]; simp) (by simp only [data_app]; exact (law5 c).trans (by (try rw [HIN.out]); (try rw [HPB.out]); (try rfl)))).mono ?_
        rintro e w9 ⟨rfl, hk⟩
        have K9 := Lib.hid (K8.out.then hk)
        clear hk
        go_wp2_with fail
        refine (match_is _ _ _ false (by rw [← data_length]; simp) (by rw [← data_length]; simp) (by simp only [data_app]; exact (law6 c).trans (by (try rw [HIN.out]); (try rw [HPB.out]); (try rfl)))).mono ?_
        rintro e w10 ⟨rfl, hk⟩
        have K10 := Lib.hid (K9.out.then hk)
        clear hk
        go_wp2_with fail
        refine (match_is _ _ _ false (by rw [← data_length]; simp) (by rw [← data_length]; simp) (by rw [mtch_eq]; decide +kernel)).mono ?_
        rintro e w11 ⟨rfl, hk⟩
        have K11 := Lib.hid (K10.out.then hk)
        clear hk
        go_wp2_with fail
        refine (match_is _ _ _ true (by rw [← data_length]; simp) (by rw [← data_length]; simp) (by rw [mtch_eq]; decide +kernel)).mono ?_
        rintro e w12 ⟨rfl, hk⟩
        have K12 := Lib.hid (K11.out.then hk)
        clear hk
        go_wp2_with fail
        refine (q_any _ c).mono ?_
        rintro e w13 ⟨rfl, hk⟩
        have K13 := Lib.hid (K12.out.then hk)
        clear hk
        go_wp2_with fail
        refine (match_is _ _ _ true (by rw [← data_length]; simp) (by rw [← data_length]; simp) (by simp only [data_app]; exact (law7 c).trans (by (try rw [HIN.out]); (try rw [HPB.out]); (try rfl)))).mono ?_
        rintro e w14 ⟨rfl, hk⟩
        have K14 := Lib.hid (K13.out.then hk)
        clear hk
        go_wp2_with fail
        refine (alive_is _ _ true (by rw [← data_length]; simp) (by simp only [data_app]; exact law8 f t o)).mono ?_
        rintro e w15 ⟨rfl, hk⟩
        have K15 := Lib.hid (K14.out.then hk)
        clear hk
        go_wp2_with fail
        refine (wakes_any _).mono ?_
        rintro e w16 ⟨rfl, hk⟩
        have K16 := Lib.hid (K15.out.then hk)
        clear hk
        go_wp2
        go_ret
        exact ⟨rfl, K16.out⟩
      · have h2 : c.toNat < f.toNat := by omega
        have g1 : decide (f.toNat ≤ c.toNat) = false := by simpa using h2
        clear h12 h1
        go_wp2_with fail
        refine (match_is _ _ _ false (by rw [← data_length]; simp) (by rw [← data_length]; simp) (by simp only [data_app]; exact (law1 f t o c).trans (by (try rw [HIN.out]); (try rw [HPB.out]); (try rfl)))).mono ?_
        rintro e w5 ⟨rfl, hk⟩
        have K5 := Lib.hid (K4.out.then hk)
        clear hk
        go_wp2_with fail
        refine (match_is _ _ _ false (by rw [← data_length]; simp) (by rw [← data_length]; simp) (by simp only [data_app]; exact (law2 f t o c).trans (by (try rw [HIN.out]); (try rw [HPB.out]); (try rfl)))).mono ?_
        rintro e w6 ⟨rfl, hk⟩
        have K6 := Lib.hid (K5.out.then hk)
        clear hk
        go_wp2_with fail
        refine (match_is _ _ _ false (by rw [← data_length]; simp) (by rw [← data_length]; simp) (by simp only [data_app]; exact (law3 f t o c).trans (by (try rw [HIN.out]); (try rw [HPB.out]); (try rfl)))).mono ?_
        rintro e w7 ⟨rfl, hk⟩
        have K7 := Lib.hid (K6.out.then hk)
        clear hk
        go_wp2_with fail
        refine (match_is _ _ _ true (by rw [← data_length]; simp) (by rw [← data_length]; simp) (by simp only [data_app]; exact (law4 f t o c).trans (by (try rw [HIN.out]); (try rw [HPB.out]); (try rfl)))).mono ?_
        rintro e w8 ⟨rfl, hk⟩
        have K8 := Lib.hid (K7.out.then hk)
        clear hk
        go_wp2_with fail
        refine (match_is _ _ _ false (by rw [← data_length]; simp) (by rw [← data_length]; simp) (by simp only [data_app]; exact (law5 c).trans (by (try rw [HIN.out]); (try rw [HPB.out]); (try rfl)))).mono ?_
        rintro e w9 ⟨rfl, hk⟩
        have K9 := Lib.hid (K8.out.then hk)
        clear hk
        go_wp2_with fail
        refine (match_is _ _ _ false (by rw [← data_length]; simp) (by rw [← data_length]; simp) (by simp only [data_app]; exact (law6 c).trans (by (try rw [HIN.out]); (try rw [HPB.out]); (try rfl)))).mono ?_
        rintro e w10 ⟨rfl, hk⟩
        have K10 := Lib.hid (K9.out.then hk)
        clear hk
        go_wp2_with fail
        refine (match_is _ _ _ false (by rw [← data_length]; simp) (by rw [← data_length]; simp) (by rw [mtch_eq]; decide +kernel)).mono ?_
        rintro e w11 ⟨rfl, hk⟩
        have K11 := Lib.hid (K10.out.then hk)
        clear hk
        go_wp2_with fail
        refine (match_is _ _ _ true (by rw [← data_length]; simp) (by rw [← data_length]; simp) (by rw [mtch_eq]; decide +kernel)).mono ?_
        rintro e w12 ⟨rfl, hk⟩
        have K12 := Lib.hid (K11.out.then hk)
        clear hk
        go_wp2_with fail
        refine (q_any _ c).mono ?_
        rintro e w13 ⟨rfl, hk⟩
        have K13 := Lib.hid (K12.out.then hk)
        clear hk
        go_wp2_with fail
        refine (match_is _ _ _ true (by rw [← data_length]; simp) (by rw [← data_length]; simp) (by simp only [data_app]; exact (law7 c).trans (by (try rw [HIN.out]); (try rw [HPB.out]); (try rfl)))).mono ?_
        rintro e w14 ⟨rfl, hk⟩
        have K14 := Lib.hid (K13.out.then hk)
        clear hk
        go_wp2_with fail
        refine (alive_is _ _ true (by rw [← data_length]; simp) (by simp only [data_app]; exact law8 f t o)).mono ?_
        rintro e w15 ⟨rfl, hk⟩
        have K15 := Lib.hid (K14.out.then hk)
        clear hk
        go_wp2_with fail
        refine (wakes_any _).mono ?_
        rintro e w16 ⟨rfl, hk⟩
        have K16 := Lib.hid (K15.out.then hk)
        clear hk
        go_wp2
        go_ret
        exact ⟨rfl, K16.out⟩
  · have HPB := Lib.hid hpb
    clear hpb
    rcases hin with ⟨h1, h2, hi⟩ | ⟨h12, h3, hi⟩ | ⟨h12, h3, hi⟩
    · have HIN := Lib.hid hi
      have g1 : decide (f.toNat ≤ c.toNat) = true := by simpa using h1
      have g2 : decide (c.toNat ≤ t.toNat) = true := by simpa using h2
      clear hi
      go_wp2_with fail
      refine (match_is _ _ _ true (by rw [← data_length]; simp) (by rw [← data_length]; simp) (by simp only [data_app]; exact (law1 f t o c).trans (by (try rw [HIN.out]); (try rw [HPB.out]); (try rfl)))).mono ?_
      rintro e w5 ⟨rfl, hk⟩
      have K5 := Lib.hid (K4.out.then hk)
      clear hk
      go_wp2_with fail
      refine (match_is _ _ _ false (by rw [← data_length]; simp) (by rw [← data_length]; simp) (by simp only [data_app]; exact (law2 f t o c).trans (by (try rw [HIN.out]); (try rw [HPB.out]); (try rfl)))).mono ?_
      rintro e w6 ⟨rfl, hk⟩
      have K6 := Lib.hid (K5.out.then hk)
      clear hk
      go_wp2_with fail
      refine (match_is _ _ _ true (by rw [← data_length]; simp) (by rw [← data_length]; simp) (by simp only [data_app]; exact (law3 f t o c).trans (by (try rw [HIN.out]); (try rw [HPB.out]); (try rfl)))).mono ?_
      rintro e w7 ⟨rfl, hk⟩
      have K7 := Lib.hid (K6.out.then hk)
      clear hk
      go_wp2_with fail
      refine (match_is _ _ _ false (by rw [← data_length]; simp) (by rw [← data_length]; simp) (by simp only [data_app]; exact (law4 f t o c).trans (by (try rw [HIN.out]); (try rw [HPB.out]); (try rfl)))).mono ?_
      rintro e w8 ⟨rfl, hk⟩
      have K8 := Lib.hid (K7.out.then hk)
      clear hk
      go_wp2_with fail
      refine (match_is _ _ _ true (by rw [← data_length]; simp) (by rw [← data_length]; simp) (by simp only [data_app]; exact (law5 c).trans (by (try rw [HIN.out]); (try rw [HPB.out]); (try rfl)))).mono ?_
      rintro e w9 ⟨rfl, hk⟩
      have K9 := Lib.hid (K8.out.then hk)
      clear hk
      go_wp2_with fail
      refine (match_is _ _ _ true (by rw [← data_length]; simp) (by rw [← data_length]; simp) (by simp only [data_app]; exact (law6 c).trans (by (try rw [HIN.out]); (try rw [HPB.out]); (try rfl)))).mono ?_
      rintro e w10 ⟨rfl, hk⟩
      have K10 := Lib.hid (K9.out.then hk)
      clear hk
      go_wp2_with fail
      refine (match_is _ _ _ false (by rw [← data_length]; simp) (by rw [← data_length]; simp) (by rw [mtch_eq]; decide +kernel)).mono ?_
      rintro e w11 ⟨rfl, hk⟩
      have K11 := Lib.hid (K10.out.then hk)
      clear hk
      go_wp2_with fail
      refine (match_is _ _ _ true (by rw [← data_length]; simp) (by rw [← data_length]; simp) (by rw [mtch_eq]; decide +kernel)).mono ?_
      rintro e w12 ⟨rfl, hk⟩
      have K12 := Lib.hid (K11.out.then hk)
      clear hk
      go_wp2_with fail
      refine (q_any _ c).mono ?_
      rintro e w13 ⟨rfl, hk⟩
      have K13 := Lib.hid (K12.out.then hk)
      clear hk
      go_wp2_with fail
      refine (match_is _ _ _ true (by rw [← data_length]; simp) (by rw [← data_length]; simp) (by simp only [data_app]; exact (law7 c).trans (by (try rw [HIN.out]); (try rw [HPB.out]); (try rfl)))).mono ?_
      rintro e w14 ⟨rfl, hk⟩
      have K14 := Lib.hid (K13.out.then hk)
      clear hk
      go_wp2_with fail
      refine (alive_is _ _ true (by rw [← data_length]; simp) (by simp only [data_app]; exact law8 f t o)).mono ?_
      rintro e w15 ⟨rfl, hk⟩
      have K15 := Lib.hid (K14.out.then hk)
      clear hk
      go_wp2_with fail
      refine (wakes_any _).mono ?_
      rintro e w16 ⟨rfl, hk⟩
      have K16 := Lib.hid (K15.out.then hk)
      clear hk
      go_wp2
      go_ret
      exact ⟨rfl, K16.out⟩
    · have HIN := Lib.hid hi
      have g3 : ((c.toNat : Int) == (o.toNat : Int)) = true := by rw [h3]; simp
      clear hi h3
      by_cases h1 : f.toNat ≤ c.toNat
      · have h2 : t.toNat < c.toNat := by omega
        have g1 : decide (f.toNat ≤ c.toNat) = true := by simpa using h1
        have g2 : decide (c.toNat ≤ t.toNat) = false := by simpa using h2
        clear h12
        go_wp2_with fail
        refine (match_is _ _ _ true (by rw [← data_length]; simp) (by rw [← data_length]; simp) (by simp only [data_app]; exact (law1 f t o c).trans (by (try rw [HIN.out]); (try rw [HPB.out]); (try rfl)))).mono ?_
        rintro e w5 ⟨rfl, hk⟩
        have K5 := Lib.hid (K4.out.then hk)
        clear hk
        go_wp2_with fail
        refine (match_is _ _ _ false (by rw [← data_length]; simp) (by rw [← data_length]; simp) (by simp only [data_app]; exact (law2 f t o c).trans (by (try rw [HIN.out]); (try rw [HPB.out]); (try rfl)))).mono ?_
        rintro e w6 ⟨rfl, hk⟩
        have K6 := Lib.hid (K5.out.then hk)
        clear hk
        go_wp2_with fail
        refine (match_is _ _ _ true (by rw [← data_length]; simp) (by rw [← data_length]; simp) (by simp only [data_app]; exact (law3 f t o c).trans (by (try rw [HIN.out]); (try rw [HPB.out]); (try rfl)))).mono ?_
        rintro e w7 ⟨rfl, hk⟩
        have K7 := Lib.hid (K6.out.then hk)
        clear hk
        go_wp2_with fail
        refine (match_is _ _ _ false (by rw [← data_length]; simp) (by rw [← data_length]; simp) (by simp only [data_app]; exact (law4 f t o c).trans (by (try rw [HIN.out]); (try rw [HPB.out]); (try rfl)))).mono ?_
        rintro e w8 ⟨rfl, hk⟩
        have K8 := Lib.hid (K7.out.then hk)
        clear hk
        go_wp2_with fail
        refine (match_is _ _ _ true (by rw [← data_length]; simp) (by rw [← data_length]; simp) (by simp only [data_app]; exact (law5 c).trans (by (try rw [HIN.out]); (try rw [HPB.out]); (try rfl)))).mono ?_
        rintro e w9 ⟨rfl, hk⟩
        have K9 := Lib.hid (K8.out.then hk)
        clear hk
        go_wp2_with fail
        refine (match_is _ _ _ true (by rw [← data_length]; simp) (by rw [← data_length]; simp) (by simp only [data_app]; exact (law6 c).trans (by (try rw [HIN.out]); (try rw [HPB.out]); (try rfl)))).mono ?_
        rintro e w10 ⟨rfl, hk⟩
        have K10 := Lib.hid (K9.out.then hk)
        clear hk
        go_wp2_with fail
        refine (match_is _ _ _ false (by rw [← data_length]; simp) (by rw [← data_length]; simp) (by rw [mtch_eq]; decide +kernel)).mono ?_
        rintro e w11 ⟨rfl, hk⟩
        have K11 := Lib.hid (K10.out.then hk)
        clear hk
        go_wp2_with fail
        refine (match_is _ _ _ true (by rw [← data_length]; simp) (by rw [← data_length]; simp) (by rw [mtch_eq]; decide +kernel)).mono ?_
        rintro e w12 ⟨rfl, hk⟩
        have K12 := Lib.hid (K11.out.then hk)
        clear hk
        go_wp2_with fail
        refine (q_any _ c).mono ?_
        rintro e w13 ⟨rfl, hk⟩
        have K13 := Lib.hid (K12.out.then hk)
        clear hk
        go_wp2_with fail
        refine (match_is _ _ _ true (by rw [← data_length]; simp) (by rw [← data_length]; simp) (by simp only [data_app]; exact (law7 c).trans (by (try rw [HIN.out]); (try rw [HPB.out]); (try rfl)))).mono ?_
        rintro e w14 ⟨rfl, hk⟩
        have K14 := Lib.hid (K13.out.then hk)
        clear hk
        go_wp2_with fail
        refine (alive_is _ _ true (by rw [← data_length]; simp) (by simp only [data_app]; exact law8 f t o)).mono ?_
        rintro e w15 ⟨rfl, hk⟩
        have K15 := Lib.hid (K14.out.then hk)
        clear hk
        go_wp2_with fail
        refine (wakes_any _).mono ?_
        rintro e w16 ⟨rfl, hk⟩
        have K16 := Lib.hid (K15.out.then hk)
        clear hk
        go_wp2
        go_ret
        exact ⟨rfl, K16.out⟩
      · have h2 : c.toNat < f.toNat := by omega
        have g1 : decide (f.toNat ≤ c.toNat) = false := by simpa using h2
        clear h12 h1
        go_wp2_with fail
        refine (match_is _ _ _ true (by rw [← data_length]; simp) (by rw [← data_length]; simp) (by simp only [data_app]; exact (law1 f t o c).trans (by (try rw [HIN.out]); (try rw [HPB.out]); (try rfl)))).mono ?_
        rintro e w5 ⟨rfl, hk⟩
        have K5 := Lib.hid (K4.out.then hk)
        clear hk
        go_wp2_with fail
        refine (match_is _ _ _ false (by rw [← data_length]; simp) (by rw [← data_length]; simp) (by simp only [data_app]; exact (law2 f t o c).trans (by (try rw [HIN.out]); (try rw [HPB.out]); (try rfl)))).mono ?_
        rintro e w6 ⟨rfl, hk⟩
        have K6 := Lib.hid (K5.out.then hk)
        clear hk
        go_wp2_with fail
        refine (match_is _ _ _ true (by rw [← data_length]; simp) (by rw [← data_length]; simp) (by simp only [data_app]; exact (law3 f t o c).trans (by (try rw [HIN.out]); (try rw [HPB.out]); (try rfl)))).mono ?_
        rintro e w7 ⟨rfl, hk⟩
        have K7 := Lib.hid (K6.out.then hk)
        clear hk
        go_wp2_with fail
        refine (match_is _ _ _ false (by rw [← data_length]; simp) (by rw [← data_length]; simp) (by simp only [data_app]; exact (law4 f t o c).trans (by (try rw [HIN.out]); (try rw [HPB.out]); (try rfl)))).mono ?_
        rintro e w8 ⟨rfl, hk⟩
        have K8 := Lib.hid (K7.out.then hk)
        clear hk
        go_wp2_with fail
        refine (match_is _ _ _ true (by rw [← data_length]; simp) (by rw [← data_length]; simp) (by simp only [data_app]; exact (law5 c).trans (by (try rw [HIN.out]); (try rw [HPB.out]); (try rfl)))).mono ?_
        rintro e w9 ⟨rfl, hk⟩
        have K9 := Lib.hid (K8.out.then hk)
        clear hk
        go_wp2_with fail
        refine (match_is _ _ _ true (by rw [← data_length]; simp) (by rw [← data_length]; simp) (by simp only [data_app]; exact (law6 c).trans (by (try rw [HIN.out]); (try rw [HPB.out]); (try rfl)))).mono ?_
        rintro e w10 ⟨rfl, hk⟩
        have K10 := Lib.hid (K9.out.then hk)
        clear hk
        go_wp2_with fail
        refine (match_is _ _ _ false (by rw [← data_length]; simp) (by rw [← data_length]; simp) (by rw [mtch_eq]; decide +kernel)).mono ?_
        rintro e w11 ⟨rfl, hk⟩
        have K11 := Lib.hid (K10.out.then hk)
        clear hk
        go_wp2_with fail
        refine (match_is _ _ _ true (by rw [← data_length]; simp) (by rw [← data_length]; simp) (by rw [mtch_eq]; decide +kernel)).mono ?_
        rintro e w12 ⟨rfl, hk⟩
        have K12 := Lib.hid (K11.out.then hk)
        clear hk
        go_wp2_with fail
        refine (q_any _ c).mono ?_
        rintro e w13 ⟨rfl, hk⟩
        have K13 := Lib.hid (K12.out.then hk)
        clear hk
        go_wp2_with fail
        refine (match_is _ _ _ true (by rw [← data_length]; simp) (by rw [← data_length]; simp) (by simp only [data_app]; exact (law7 c).trans (by (try rw [HIN.out]); (try rw [HPB.out]); (try rfl)))).mono ?_
        rintro e w14 ⟨rfl, hk⟩
        have K14 := Lib.hid (K13.out.then hk)
        clear hk
        go_wp2_with fail
        refine (alive_is _ _ true (by rw [← data_length]; simp) (by simp only [data_app]; exact law8 f t o)).mono ?_
        rintro e w15 ⟨rfl, hk⟩
        have K15 := Lib.hid (K14.out.then hk)
        clear hk
        go_wp2_with fail
        refine (wakes_any _).mono ?_
        rintro e w16 ⟨rfl, hk⟩
        have K16 := Lib.hid (K15.out.then hk)
        clear hk
        go_wp2
        go_ret
        exact ⟨rfl, K16.out⟩
    · have HIN := Lib.hid hi
      have g3 : ((c.toNat : Int) == (o.toNat : Int)) = false := by simpa using fun e : (c.toNat : Int) = o.toNat => h3 (by omega)
      clear hi h3
      by_cases h1 : f.toNat ≤ c.toNat
      · have h2 : t.toNat < c.toNat := by omega
        have g1 : decide (f.toNat ≤ c.toNat) = true := by simpa using h1
        have g2 : decide (c.toNat ≤ t.toNat) = false := by simpa using h2
        clear h12
        go_wp2_with fail
        refine (match_is _ _ _ false (by rw [← data_length]; simp) (by rw [← data_length]; simp) (by simp only [data_app]; exact (law1 f t o c).trans (by (try rw [HIN.out]); (try rw [HPB.out]); (try rfl)))).mono ?_
        rintro e w5 ⟨rfl, hk⟩
        have K5 := Lib.hid (K4.out.then hk)
        clear hk
        go_wp2_with fail
        refine (match_is _ _ _ true (by rw [← data_length]; simp) (by rw [← data_length]; simp) (by simp only [data_app]; exact (law2 f t o c).trans (by (try rw [HIN.out]); (try rw [HPB.out]); (try rfl)))).mono ?_
        rintro e w6 ⟨rfl, hk⟩
        have K6 := Lib.hid (K5.out.then hk)
        clear hk
        go_wp2_with fail
        refine (match_is _ _ _ false (by rw [← data_length]; simp) (by rw [← data_length]; simp) (by simp only [data_app]; exact (law3 f t o c).trans (by (try rw [HIN.out]); (try rw [HPB.out]); (try rfl)))).mono ?_
        rintro e w7 ⟨rfl, hk⟩
        have K7 := Lib.hid (K6.out.then hk)
        clear hk
        go_wp2_with fail
        refine (match_is _ _ _ true (by rw [← data_length]; simp) (by rw [← data_length]; simp) (by simp only [data_app]; exact (law4 f t o c).trans (by (try rw [HIN.out]); (try rw [HPB.out]); (try rfl)))).mono ?_
        rintro e w8 ⟨rfl, hk⟩
        have K8 := Lib.hid (K7.out.then hk)
        clear hk
        go_wp2_with fail
        refine (match_is _ _ _ true (by rw [← data_length]; simp) (by rw [← data_length]; simp) (by simp only [data_app]; exact (law5 c).trans (by (try rw [HIN.out]); (try rw [HPB.out]); (try rfl)))).mono ?_
        rintro e w9 ⟨rfl, hk⟩
        have K9 := Lib.hid (K8.out.then hk)
        clear hk
        go_wp2_with fail
        refine (match_is _ _ _ true (by rw [← data_length]; simp) (by rw [← data_length]; simp) (by simp only [data_app]; exact (law6 c).trans (by (try rw [HIN.out]); (try rw [HPB.out]); (try rfl)))).mono ?_
        rintro e w10 ⟨rfl, hk⟩
        have K10 := Lib.hid (K9.out.then hk)
        clear hk
        go_wp2_with fail
        refine (match_is _ _ _ false (by rw [← data_length]; simp) (by rw [← data_length]; simp) (by rw [mtch_eq]; decide +kernel)).mono ?_
        rintro e w11 ⟨rfl, hk⟩
        have K11 := Lib.hid (K10.out.then hk)
        clear hk
        go_wp2_with fail
        refine (match_is _ _ _ true (by rw [← data_length]; simp) (by rw [← data_length]; simp) (by rw [mtch_eq]; decide +kernel)).mono ?_
        rintro e w12 ⟨rfl, hk⟩
        have K12 := Lib.hid (K11.out.then hk)
        clear hk
        go_wp2_with fail
        refine (q_any _ c).mono ?_
        rintro e w13 ⟨rfl, hk⟩
        have K13 := Lib.hid (K12.out.then hk)
        clear hk
        go_wp2_with fail
        refine (match_is _ _ _ true (by rw [← data_length]; simp) (by rw [← data_length]; simp) (by simp only [data_app]; exact (law7 c).trans (by (try rw [HIN.out]); (try rw [HPB.out]); (try rfl)))).mono ?_
        rintro e w14 ⟨rfl, hk⟩
        have K14 := Lib.hid (K13.out.then hk)
        clear hk
        go_wp2_with fail
        refine (alive_is _ _ true (by rw [← data_length]; simp) (by simp only [data_app]; exact law8 f t o)).mono ?_
        rintro e w15 ⟨rfl, hk⟩
        have K15 := Lib.hid (K14.out.then hk)
        clear hk
        go_wp2_with fail
        refine (wakes_any _).mono ?_
        rintro e w16 ⟨rfl, hk⟩
        have K16 := Lib.hid (K15.out.then hk)
        clear hk
        go_wp2
        go_ret
        exact ⟨rfl, K16.out⟩
      · have h2 : c.toNat < f.toNat := by omega
        have g1 : decide (f.toNat ≤ c.toNat) = false := by simpa using h2
        clear h12 h1
        go_wp2_with fail
        refine (match_is _ _ _ false (by rw [← data_length]; simp) (by rw [← data_length]; simp) (by simp only [data_app]; exact (law1 f t o c).trans (by (try rw [HIN.out]); (try rw [HPB.out]); (try rfl)))).mono ?_
        rintro e w5 ⟨rfl, hk⟩
        have K5 := Lib.hid (K4.out.then hk)
        clear hk
        go_wp2_with fail
        refine (match_is _ _ _ true (by rw [← data_length]; simp) (by rw [← data_length]; simp) (by simp only [data_app]; exact (law2 f t o c).trans (by (try rw [HIN.out]); (try rw [HPB.out]); (try rfl)))).mono ?_
        rintro e w6 ⟨rfl, hk⟩
        have K6 := Lib.hid (K5.out.then hk)
        clear hk
        go_wp2_with fail
        refine (match_is _ _ _ false (by rw [← data_length]; simp) (by rw [← data_length]; simp) (by simp only [data_app]; exact (law3 f t o c).trans (by (try rw [HIN.out]); (try rw [HPB.out]); (try rfl)))).mono ?_
        rintro e w7 ⟨rfl, hk⟩
        have K7 := Lib.hid (K6.out.then hk)
        clear hk
        go_wp2_with fail
        refine (match_is _ _ _ true (by rw [← data_length]; simp) (by rw [← data_length]; simp) (by simp only [data_app]; exact (law4 f t o c).trans (by (try rw [HIN.out]); (try rw [HPB.out]); (try rfl)))).mono ?_
        rintro e w8 ⟨rfl, hk⟩
        have K8 := Lib.hid (K7.out.then hk)
        clear hk
        go_wp2_with fail
        refine (match_is _ _ _ true (by rw [← data_length]; simp) (by rw [← data_length]; simp) (by simp only [data_app]; exact (law5 c).trans (by (try rw [HIN.out]); (try rw [HPB.out]); (try rfl)))).mono ?_
        rintro e w9 ⟨rfl, hk⟩
        have K9 := Lib.hid (K8.out.then hk)
        clear hk
        go_wp2_with fail
        refine (match_is _ _ _ true (by rw [← data_length]; simp) (by rw [← data_length]; simp) (by simp only [data_app]; exact (law6 c).trans (by (try rw [HIN.out]); (try rw [HPB.out]); (try rfl)))).mono ?_
        rintro e w10 ⟨rfl, hk⟩
        have K10 := Lib.hid (K9.out.then hk)
        clear hk
        go_wp2_with fail
        refine (match_is _ _ _ false (by rw [← data_length]; simp) (by rw [← data_length]; simp) (by rw [mtch_eq]; decide +kernel)).mono ?_
        rintro e w11 ⟨rfl, hk⟩
        have K11 := Lib.hid (K10.out.then hk)
        clear hk
        go_wp2_with fail
        refine (match_is _ _ _ true (by rw [← data_length]; simp) (by rw [← data_length]; simp) (by rw [mtch_eq]; decide +kernel)).mono ?_
        rintro e w12 ⟨rfl, hk⟩
        have K12 := Lib.hid (K11.out.then hk)
        clear hk
        go_wp2_with fail
        refine (q_any _ c).mono ?_
        rintro e w13 ⟨rfl, hk⟩
        have K13 := Lib.hid (K12.out.then hk)
        clear hk
        go_wp2_with fail
        refine (match_is _ _ _ true (by rw [← data_length]; simp) (by rw [← data_length]; simp) (by simp only [data_app]; exact (law7 c).trans (by (try rw [HIN.out]); (try rw [HPB.out]); (try rfl)))).mono ?_
        rintro e w14 ⟨rfl, hk⟩
        have K14 := Lib.hid (K13.out.then hk)
        clear hk
        go_wp2_with fail
        refine (alive_is _ _ true (by rw [← data_length]; simp) (by simp only [data_app]; exact law8 f t o)).mono ?_
        rintro e w15 ⟨rfl, hk⟩
        have K15 := Lib.hid (K14.out.then hk)
        clear hk
        go_wp2_with fail
        refine (wakes_any _).mono ?_
        rintro e w16 ⟨rfl, hk⟩
        have K16 := Lib.hid (K15.out.then hk)
        clear hk
        go_wp2
        go_ret
        exact ⟨rfl, K16.out⟩
theorem patternSets_walk' (w : World) (f : Int) (f0 : 0 ≤ f) (f1 : f < 256) (t : Int) (t0 : 0 ≤ t) (t1 : t < 256) (o : Int) (o0 : 0 ≤ o) (o1 : o < 256) (c : Int) (c0 : 0 ≤ c) (c1 : c < 256) :
    Calls Try.prog 3 #[.int .u8 f, .int .u8 t, .int .u8 o, .int .u8 c] w fun e w' => e = .returned (.bool true) ∧ Keeps No w w' := by
  have e : ∀ x : Int, 0 ≤ x → x < 256 → ((UInt8.ofNat x.toNat).toNat : Int) = x := fun x h0 h1 => by simp; omega
  have h := patternSets_walk w (UInt8.ofNat f.toNat) (UInt8.ofNat t.toNat) (UInt8.ofNat o.toNat) (UInt8.ofNat c.toNat)
  rwa [e f f0 f1, e t t0 t1, e o o0 o1, e c c0 c1] at h
end Go.Proofs.Ytobnljndaabkaaa
