/- Plain laws for the law of boxes: what the calls' answers are worth. -/
import Derived.Test.YthlajmncpejhmaaBoxD
namespace Go.Proofs.Ythlajmncpejhmaa
set_option linter.unusedVariables false
open Go.ChangeShapes Go.WideShapes Go.ChangeAt Go.RowKit

theorem box_wt {x : Bx} (h : x.length = 3) : kBox.wt x = 3 := by
  have h3 : ∀ y : Bx, sumL kSide.wt y = 0 := by
    intro y
    induction y with
    | nil => rfl
    | cons p q ihq => rw [sumL, ihq]; rfl
  show x.length + sumL kSide.wt x = 3
  rw [h3, h]
theorem meet_good2 {a b : Bx} (ha : GoodR a = true) (hb : GoodR b = true) (h : (zipF meetP a b 3).all (fun s => decide (s.1 ≤ s.2)) = true) : GoodR (zipF meetP a b 3) = true := by
  obtain ⟨x, y, z, rfl, hx, hy, hz⟩ := box3 ha
  obtain ⟨u, v, t, rfl, hu, hv, ht⟩ := box3 hb
  have key : ∀ p q : Int × Int, gs p = true → gs q = true → (meetP p q).1 ≤ (meetP p q).2 → gs (meetP p q) = true := by
    intro p q hp hq h
    have h1 := gsd hp; have h2 := gsd hq
    unfold gs
    have h3 : -1000 ≤ (meetP p q).1 := by unfold meetP; simp only; split <;> omega
    have h4 : (meetP p q).2 ≤ 1000 := by unfold meetP; simp only; split <;> omega
    simp; omega
  rw [zip3] at h ⊢
  simp only [List.all_cons, List.all_nil, Bool.and_true, Bool.and_eq_true, decide_eq_true_eq] at h
  unfold GoodR
  simp [key x u hx hu h.1, key y v hy hv h.2.1, key z t hz ht h.2.2]
theorem hull_good {a b : Bx} (ha : GoodR a = true) (hb : GoodR b = true) : GoodR (zipF hullP a b 3) = true := by
  obtain ⟨x, y, z, rfl, hx, hy, hz⟩ := box3 ha
  obtain ⟨u, v, t, rfl, hu, hv, ht⟩ := box3 hb
  have key : ∀ p q : Int × Int, gs p = true → gs q = true → gs (hullP p q) = true := by
    intro p q hp hq
    have h1 := gsd hp; have h2 := gsd hq
    unfold gs
    have h3 : -1000 ≤ (hullP p q).1 := by unfold hullP; simp only; split <;> omega
    have h4 : (hullP p q).2 ≤ 1000 := by unfold hullP; simp only; split <;> omega
    have h5 : (hullP p q).1 ≤ (hullP p q).2 := by unfold hullP; simp only; split <;> split <;> omega
    simp; omega
  rw [zip3]
  unfold GoodR
  simp [key x u hx hu, key y v hy hv, key z t hz ht]
/-- what the six answers on two boxes are -/
structure SixB (a b : Bx) (p : List Int) (x y z q is ok one two : Bool) (h m : Bx) : Prop where
  no : ok = false → True
  h1 : one = true
  xy : (x || y) = true → z = true
  ix : is = true → y = true → x = true
  eq : decide (h = a) = is
  inn : (if two = true then q else false) = (x && y)
  bx : R_BoxHas a p = (x, true)
  by' : R_BoxHas b p = (y, true)
  bz : R_BoxHas h p = (z, true)
  bq : two = true → R_BoxHas m p = (q, true)
theorem six_of {a b : Bx} {p : List Int} (hp : pointR p = true) (hok : (R_BoxCovers a b).2 = true) :
    ∃ x y z q, SixB a b p x y z q (R_BoxCovers a b).1 true (R_HullOf a b).2 (R_MeetBoxes a b).2 (R_HullOf a b).1 (R_MeetBoxes a b).1 := by
  by_cases hg : GoodR a = true ∧ GoodR b = true
  case neg => rw [BC_no hg] at hok; cases hok
  obtain ⟨ha, hb⟩ := hg
  have hp3 := point_len hp
  have hH : R_HullOf a b = (zipF hullP a b 3, true) := HullR_yes a b ⟨ha, hb⟩
  have hM : R_MeetBoxes a b = MR a b := MBR_yes a b ⟨ha, hb⟩
  rw [BC_yes ⟨ha, hb⟩, hH, hM]
  have hxy : hasR a p = true ∨ hasR b p = true → hasR (zipF hullP a b 3) p = true := hull_has ha hb hp3
  by_cases hall : (zipF meetP a b 3).all (fun s => decide (s.1 ≤ s.2)) = true
  · have hMR : MR a b = (zipF meetP a b 3, true) := if_pos hall
    rw [hMR]
    refine ⟨hasR a p, hasR b p, hasR (zipF hullP a b 3) p, hasR (zipF meetP a b 3) p, fun _ => trivial, rfl, fun h => hxy (by simpa using h), fun h1 h2 => cov_has ha hb hp3 h1 h2, hull_cov ha hb, ?_, BH_yes ⟨ha, hp⟩, BH_yes ⟨hb, hp⟩, BH_yes ⟨hull_good ha hb, hp⟩, fun _ => BH_yes ⟨meet_good2 ha hb hall, hp⟩⟩
    rw [if_pos rfl]; exact meet_has ha hb hp3
  · have hMR : MR a b = ([], false) := if_neg hall
    rw [hMR]
    refine ⟨hasR a p, hasR b p, hasR (zipF hullP a b 3) p, false, fun _ => trivial, rfl, fun h => hxy (by simpa using h), fun h1 h2 => cov_has ha hb hp3 h1 h2, hull_cov ha hb, ?_, BH_yes ⟨ha, hp⟩, BH_yes ⟨hb, hp⟩, BH_yes ⟨hull_good ha hb, hp⟩, fun h => by cases h⟩
    rw [if_neg (by simp)]
    exact (meet_none ha hb hp3 (by simpa using hall)).symm
theorem hull_len {a b : Bx} : (R_HullOf a b).1.length ≤ 3 := by
  show (HullR a b).1.length ≤ 3
  unfold HullR; split <;> simp [zipF]
theorem meet_len {a b : Bx} : (R_MeetBoxes a b).1.length ≤ 3 := by
  show (MBR a b).1.length ≤ 3
  unfold MBR MR; split
  · split <;> simp [zipF]
  · simp
theorem point_good {p : List Int} (h3 : p.length = 3) (h : ∀ x ∈ p, 0 ≤ x ∧ x ≤ 11) : pointR p = true := by
  unfold pointR
  rw [Bool.and_eq_true, decide_eq_true_eq]
  refine ⟨h3, List.all_eq_true.2 fun x hx => ?_⟩
  have := h x hx
  exact inB_yes (by omega)
theorem rw_ints {w : World} {q : Option Addr} {n c : Nat} {xs : List Int} (h : kIntS.rd w.heap.size w [.slice q n c] xs) : Rw w q (ints xs) := by
  obtain ⟨a, cap, vss, hc, _, hrow, hl⟩ := h
  simp only [List.cons.injEq, Value.slice.injEq, and_true] at hc
  obtain ⟨rfl, _, _⟩ := hc
  have key : ∀ {vs : List (List Value)} {ys : List Int}, RdL kInt w.heap.size w vs ys → vs.flatten = ints ys := by
    intro vs
    induction vs with
    | nil => intro ys h; cases ys with
      | nil => rfl
      | cons y ys => exact absurd h (by intro h; exact h)
    | cons v vs ih => intro ys h; cases ys with
      | nil => exact absurd h (by intro h; exact h)
      | cons y ys =>
        obtain ⟨⟨rfl, _⟩, h3⟩ := h
        rw [List.flatten_cons, ih h3]; rfl
  rw [← key hl]; exact hrow
theorem box_rw {w : World} {q : Option Addr} {n c : Nat} {x : Bx} (h : kBox.rd w.heap.size w [.slice q n c] x) : Rw w q (sds x) := by
  obtain ⟨a, cap, hc, hr, _, _⟩ := box_form h
  simp only [List.cons.injEq, Value.slice.injEq, and_true] at hc
  obtain ⟨rfl, _, _⟩ := hc
  exact hr
theorem box_form1 {B : Nat} {w : World} {cs : List Value} {x : Bx} (h : kBox.rd B w cs x) : ∃ a cap, cs = [.slice a x.length cap] := by
  obtain ⟨a, cap, vss, rfl, _⟩ := h; exact ⟨a, cap, rfl⟩
theorem rdl_snoc {α : Type} {K : Kind α} {B : Nat} {w : World} {v : List Value} {x : α} (hx : K.rd B w v x) : ∀ {vs : List (List Value)} {xs : List α}, RdL K B w vs xs → RdL K B w (vs ++ [v]) (xs ++ [x])
  | [], [], _ => ⟨hx, trivial⟩
  | _ :: _, _ :: _, h => ⟨h.1, rdl_snoc hx h.2⟩
theorem point_rd {w : World} {base g c : Nat} {p : List Int} (h3 : p.length = 3) (hp : ∀ x ∈ p, 0 ≤ x ∧ x ≤ 11) (ho : w.ownsRow base 3 1 (.slice (some ⟨g, 0, none⟩) 3 c) 3 (ints p)) : kIntS.rd w.heap.size w [.slice (some ⟨g, 0, none⟩) p.length c] p := by
  have h := ints_ow (v := .slice (some ⟨g, 0, none⟩) p.length c) (xs := p) (by rw [h3]; exact ho) (fun x hx => WalkArith.wf_i64 (by have := hp x hx; omega))
  exact kIntS_ok.ord h (kIntS_ok.olt h)
theorem point_wt {p : List Int} (h3 : p.length = 3) : kIntS.wt p ≤ 10 := by
  have h : ∀ y : List Int, sumL kInt.wt y = 0 := by
    intro y
    induction y with
    | nil => rfl
    | cons p q ihq => rw [sumL, ihq]; rfl
  show p.length + sumL kInt.wt p ≤ 10
  rw [h, h3]; omega
end Go.Proofs.Ythlajmncpejhmaa
