/- Plain laws on boxes: which takes in which, what hulls and meetings have, that no box is needed that another one takes in. No program in sight. -/
import Derived.Test.YthlajmncpejhmaaCover
import Derived.Test.YthlajmncpejhmaaUnionS
import Derived.Test.YthlajmncpejhmaaMeetB
namespace Go.Proofs.Ythlajmncpejhmaa
set_option linter.unusedVariables false

theorem box3 {a : Bx} (h : GoodR a = true) : ∃ x y z : Int × Int, a = [x, y, z] ∧ gs x = true ∧ gs y = true ∧ gs z = true := by
  unfold GoodR at h
  rw [Bool.and_eq_true, beq_iff_eq] at h
  match a, h.1 with
  | [x, y, z], _ => simp at h; exact ⟨x, y, z, rfl, h.1, h.2.1, h.2.2⟩
theorem gsd {p : Int × Int} (h : gs p = true) : -1000 ≤ p.1 ∧ p.1 ≤ p.2 ∧ p.2 ≤ 1000 := by unfold gs at h; simp at h; omega
theorem cov3 {x y z u v t : Int × Int} : covR [x, y, z] [u, v, t] = true ↔ (x.1 ≤ u.1 ∧ u.2 ≤ x.2) ∧ (y.1 ≤ v.1 ∧ v.2 ≤ y.2) ∧ (z.1 ≤ t.1 ∧ t.2 ≤ z.2) := by
  simp [covR]
theorem has3 {x y z : Int × Int} {p q r : Int} : hasR [x, y, z] [p, q, r] = true ↔ (x.1 ≤ p ∧ p ≤ x.2) ∧ (y.1 ≤ q ∧ q ≤ y.2) ∧ (z.1 ≤ r ∧ r ≤ z.2) := by
  simp [hasR, inB]
theorem zip3 (f : Int × Int → Int × Int → Int × Int) (x y z u v t : Int × Int) : zipF f [x, y, z] [u, v, t] 3 = [f x u, f y v, f z t] := rfl
/-- a box takes in another one just if it is the hull of both -/
theorem hull_cov {a b : Bx} (ha : GoodR a = true) (hb : GoodR b = true) : decide (zipF hullP a b 3 = a) = covR a b := by
  obtain ⟨x, y, z, rfl, hx, hy, hz⟩ := box3 ha
  obtain ⟨u, v, t, rfl, hu, hv, ht⟩ := box3 hb
  rw [zip3, Bool.eq_iff_iff, cov3, decide_eq_true_iff]
  have key : ∀ p q : Int × Int, hullP p q = p ↔ (p.1 ≤ q.1 ∧ q.2 ≤ p.2) := by
    intro p q
    obtain ⟨p1, p2⟩ := p; obtain ⟨q1, q2⟩ := q
    unfold hullP
    simp only [Prod.mk.injEq]
    constructor
    · rintro ⟨h1, h2⟩
      refine ⟨?_, ?_⟩
      · by_cases c : q1 < p1
        · rw [if_pos c] at h1; omega
        · omega
      · by_cases c : q2 > p2
        · rw [if_pos c] at h2; omega
        · omega
    · rintro ⟨h1, h2⟩
      rw [if_neg (by omega), if_neg (by omega)]; exact ⟨rfl, rfl⟩
  simp only [List.cons.injEq, and_true, key]
theorem hullP_le (p q : Int × Int) : (hullP p q).1 ≤ p.1 ∧ (hullP p q).1 ≤ q.1 ∧ p.2 ≤ (hullP p q).2 ∧ q.2 ≤ (hullP p q).2 := by
  unfold hullP
  refine ⟨?_, ?_, ?_, ?_⟩ <;> simp only <;> split <;> omega
theorem hull_has {a b : Bx} {p : List Int} (ha : GoodR a = true) (hb : GoodR b = true) (hp : p.length = 3) (h : hasR a p = true ∨ hasR b p = true) : hasR (zipF hullP a b 3) p = true := by
  obtain ⟨x, y, z, rfl, -, -, -⟩ := box3 ha
  obtain ⟨u, v, t, rfl, -, -, -⟩ := box3 hb
  match p, hp with
  | [p, q, r], _ =>
    rw [zip3, has3]
    rw [has3, has3] at h
    have h1 := hullP_le x u; have h2 := hullP_le y v; have h3 := hullP_le z t
    rcases h with h | h <;> refine ⟨⟨?_, ?_⟩, ⟨?_, ?_⟩, ⟨?_, ?_⟩⟩ <;> omega
theorem cov_has {a b : Bx} {p : List Int} (ha : GoodR a = true) (hb : GoodR b = true) (hp : p.length = 3) (hc : covR a b = true) (h : hasR b p = true) : hasR a p = true := by
  obtain ⟨x, y, z, rfl, -, -, -⟩ := box3 ha
  obtain ⟨u, v, t, rfl, -, -, -⟩ := box3 hb
  match p, hp with
  | [p, q, r], _ =>
    rw [has3] at *
    rw [cov3] at hc
    omega
theorem meetP_in (p q : Int × Int) (n : Int) : ((meetP p q).1 ≤ n ∧ n ≤ (meetP p q).2) ↔ ((p.1 ≤ n ∧ n ≤ p.2) ∧ (q.1 ≤ n ∧ n ≤ q.2)) := by
  unfold meetP
  simp only
  constructor
  · rintro ⟨h1, h2⟩
    refine ⟨⟨?_, ?_⟩, ⟨?_, ?_⟩⟩
    · split at h1 <;> omega
    · split at h2 <;> omega
    · split at h1 <;> omega
    · split at h2 <;> omega
  · rintro ⟨⟨h1, h2⟩, h3, h4⟩
    refine ⟨?_, ?_⟩ <;> split <;> omega
theorem meet_has {a b : Bx} {p : List Int} (ha : GoodR a = true) (hb : GoodR b = true) (hp : p.length = 3) : hasR (zipF meetP a b 3) p = (hasR a p && hasR b p) := by
  obtain ⟨x, y, z, rfl, -, -, -⟩ := box3 ha
  obtain ⟨u, v, t, rfl, -, -, -⟩ := box3 hb
  match p, hp with
  | [p, q, r], _ =>
    rw [zip3, Bool.eq_iff_iff, Bool.and_eq_true, has3, has3, has3]
    have h1 := meetP_in x u p; have h2 := meetP_in y v q; have h3 := meetP_in z t r
    rw [h1, h2, h3]
    constructor
    · rintro ⟨⟨a1, a2⟩, ⟨b1, b2⟩, c1, c2⟩; exact ⟨⟨a1, b1, c1⟩, a2, b2, c2⟩
    · rintro ⟨⟨a1, b1, c1⟩, a2, b2, c2⟩; exact ⟨⟨a1, a2⟩, ⟨b1, b2⟩, c1, c2⟩
/-- where two boxes have nothing, no point is in both -/
theorem meet_none {a b : Bx} {p : List Int} (ha : GoodR a = true) (hb : GoodR b = true) (hp : p.length = 3) (h : (zipF meetP a b 3).all (fun s => decide (s.1 ≤ s.2)) = false) : (hasR a p && hasR b p) = false := by
  rw [← meet_has ha hb hp]
  obtain ⟨x, y, z, rfl, -, -, -⟩ := box3 ha
  obtain ⟨u, v, t, rfl, -, -, -⟩ := box3 hb
  match p, hp with
  | [p, q, r], _ =>
    rw [zip3] at h ⊢
    rw [Bool.eq_false_iff]
    intro hc
    rw [has3] at hc
    apply Bool.eq_false_iff.1 h
    simp only [List.all_cons, List.all_nil, Bool.and_true, Bool.and_eq_true, decide_eq_true_eq]
    omega
/-! ### the least cover -/
theorem cov_refl {a : Bx} (ha : GoodR a = true) : covR a a = true := by
  obtain ⟨x, y, z, rfl, -, -, -⟩ := box3 ha
  rw [cov3]; omega
theorem cov_trans {a b c : Bx} (ha : GoodR a = true) (hb : GoodR b = true) (hc : GoodR c = true) (h : covR a b = true) (k : covR b c = true) : covR a c = true := by
  obtain ⟨x, y, z, rfl, -, -, -⟩ := box3 ha
  obtain ⟨u, v, t, rfl, -, -, -⟩ := box3 hb
  obtain ⟨o, p, q, rfl, -, -, -⟩ := box3 hc
  rw [cov3] at *; omega
def wide : Bx → Int
  | s :: r => s.2 - s.1 + wide r
  | [] => 0
theorem wide_bd {a : Bx} (ha : GoodR a = true) : 0 ≤ wide a ∧ wide a ≤ 6000 := by
  obtain ⟨x, y, z, rfl, hx, hy, hz⟩ := box3 ha
  have := gsd hx; have := gsd hy; have := gsd hz
  simp only [wide]; omega
theorem cov_wide {a b : Bx} (ha : GoodR a = true) (hb : GoodR b = true) (h : covR a b = true) : wide b ≤ wide a ∧ (covR b a = false → wide b < wide a) := by
  obtain ⟨x, y, z, rfl, -, -, -⟩ := box3 ha
  obtain ⟨u, v, t, rfl, -, -, -⟩ := box3 hb
  rw [cov3] at h
  simp only [wide]
  refine ⟨by omega, fun hn => ?_⟩
  rw [Bool.eq_false_iff, ne_eq, cov3] at hn
  omega
theorem good_of {l : List Bx} (h : boxesR l = true) {i : Nat} (hi : i < l.length) : GoodR (l.getD i []) = true := by
  unfold boxesR at h
  rw [Bool.and_eq_true] at h
  rw [List.getD, List.getElem?_eq_getElem hi]
  exact List.all_eq_true.1 h.2 _ (List.getElem_mem hi)
theorem nd_iff {l : List Bx} {i : Nat} : ndR l i l.length = true ↔ ∀ j, j < l.length → condR l i j = false := by
  unfold ndR
  rw [List.all_eq_true]
  exact ⟨fun h j hj => by simpa using h j (List.mem_range.2 hj), fun h j hj => by simp [h j (List.mem_range.1 hj)]⟩
/-- each box is taken in by one that is needed -/
theorem needed_over {l : List Bx} (h : boxesR l = true) : ∀ (m i : Nat), i < l.length → (6000 - wide (l.getD i [])) * 21 + i ≤ m → ∃ k, k < l.length ∧ ndR l k l.length = true ∧ covR (l.getD k []) (l.getD i []) = true
  | m, i, hi, hm => by
    have hlen : l.length ≤ 20 := by unfold boxesR at h; rw [Bool.and_eq_true, decide_eq_true_eq] at h; exact h.1
    by_cases hn : ndR l i l.length = true
    · exact ⟨i, hi, hn, cov_refl (good_of h hi)⟩
    · have hb := wide_bd (good_of h hi)
      have hex : ∃ j, j < l.length ∧ condR l i j = true := by
        by_cases hc : ∃ j, j < l.length ∧ condR l i j = true
        · exact hc
        · refine absurd (nd_iff.2 fun j hj => ?_) hn
          rw [Bool.eq_false_iff]; intro hx; exact hc ⟨j, hj, hx⟩
      obtain ⟨j, hj, hc⟩ := hex
      unfold condR at hc
      simp only [Bool.and_eq_true, Bool.or_eq_true, decide_eq_true_eq, Bool.not_eq_true'] at hc
      obtain ⟨⟨hne, hcov⟩, hor⟩ := hc
      have hw := cov_wide (good_of h hj) (good_of h hi) hcov
      have hb2 := wide_bd (good_of h hj)
      have hlt : (6000 - wide (l.getD j [])) * 21 + j < (6000 - wide (l.getD i [])) * 21 + i := by
        rcases hor with hor | hor
        · have := hw.1; omega
        · have := hw.2 hor; omega
      cases m with
      | zero => omega
      | succ m =>
        obtain ⟨k, hk, h1, h2⟩ := needed_over h m j hj (by omega)
        exact ⟨k, hk, h1, cov_trans (good_of h hk) (good_of h hj) (good_of h hi) h2 hcov⟩
  termination_by m => m
theorem needed_apart {l : List Bx} {p q : Nat} (hp : p < l.length) (hq : q < l.length) (h1 : ndR l p l.length = true) (h2 : ndR l q l.length = true) (hne : p ≠ q) : covR (l.getD p []) (l.getD q []) = false := by
  rw [Bool.eq_false_iff]
  intro hc
  have a1 := nd_iff.1 h2 p hp
  have a2 := nd_iff.1 h1 q hq
  unfold condR at a1 a2
  rw [hc, decide_eq_true hne] at a1
  simp only [Bool.and_true, Bool.true_and, Bool.or_eq_false_iff, decide_eq_false_iff_not, Bool.not_eq_false'] at a1
  rw [hc, a1.2, decide_eq_true (Ne.symm hne)] at a2
  simp only [Bool.and_true, Bool.true_and, Bool.or_eq_false_iff, decide_eq_false_iff_not] at a2
  have := a1.1; have := a2.1
  omega
theorem mem_lc {l : List Bx} {n : Nat} {x : Int} : x ∈ lcL l n ↔ ∃ i : Nat, x = i ∧ i < n ∧ ndR l i l.length = true := by
  unfold lcL
  simp only [List.mem_map, List.mem_filter, List.mem_range]
  exact ⟨fun ⟨i, ⟨h1, h2⟩, h3⟩ => ⟨i, h3.symm, h1, h2⟩, fun ⟨i, h1, h2, h3⟩ => ⟨i, ⟨h2, h3⟩, h1.symm⟩⟩
theorem lc_rising (l : List Bx) (n : Nat) : (lcL l n).Pairwise (· < ·) := by
  unfold lcL
  rw [List.pairwise_map]
  exact (List.pairwise_lt_range.filter _).imp (fun h => by omega)
def fewR (l : List Bx) (c : List Int) : List Bx := c.map fun k => l.getD k.toNat []
theorem few_good {l : List Bx} (h : boxesR l = true) : boxesR (fewR l (lcL l l.length)) = true := by
  have hlen : l.length ≤ 20 := by unfold boxesR at h; rw [Bool.and_eq_true, decide_eq_true_eq] at h; exact h.1
  unfold boxesR
  rw [Bool.and_eq_true, decide_eq_true_eq]
  constructor
  · unfold fewR lcL
    rw [List.length_map, List.length_map]
    have := List.length_filter_le (fun i => ndR l i l.length) (List.range l.length)
    rw [List.length_range] at this; omega
  · rw [List.all_eq_true]
    intro x hx
    obtain ⟨k, hk, rfl⟩ := List.mem_map.1 hx
    obtain ⟨i, rfl, hi, _⟩ := mem_lc.1 hk
    exact good_of h (by simpa using hi)
theorem few_has {l : List Bx} {p : List Int} (h : boxesR l = true) (hp : p.length = 3) : (fewR l (lcL l l.length)).any (hasR · p) = l.any (hasR · p) := by
  rw [Bool.eq_iff_iff, List.any_eq_true, List.any_eq_true]
  constructor
  · rintro ⟨x, hx, h1⟩
    obtain ⟨k, hk, rfl⟩ := List.mem_map.1 hx
    obtain ⟨i, rfl, hi, _⟩ := mem_lc.1 hk
    rw [List.getD, List.getElem?_eq_getElem (by simpa using hi)] at h1
    exact ⟨_, List.getElem_mem (by simpa using hi), h1⟩
  · rintro ⟨x, hx, h1⟩
    obtain ⟨i, hi, rfl⟩ := List.getElem_of_mem hx
    obtain ⟨k, hk, h2, h3⟩ := needed_over h _ i hi (Int.toNat_le.1 (Nat.le_refl _))
    refine ⟨l.getD k [], List.mem_map.2 ⟨(k : Int), mem_lc.2 ⟨k, rfl, hk, h2⟩, by simp⟩, ?_⟩
    refine cov_has (good_of h hk) (good_of h hi) hp h3 ?_
    rw [List.getD, List.getElem?_eq_getElem hi]; exact h1
theorem few_apart {l : List Bx} {i j : Nat} (hi : i < (lcL l l.length).length) (hj : j < (lcL l l.length).length) (hne : i ≠ j) : covR ((fewR l (lcL l l.length)).getD i []) ((fewR l (lcL l l.length)).getD j []) = false := by
  have e : ∀ k, (hk : k < (lcL l l.length).length) → (fewR l (lcL l l.length)).getD k [] = l.getD (lcL l l.length)[k].toNat [] := by
    intro k hk
    unfold fewR
    rw [List.getD, List.getElem?_map, List.getElem?_eq_getElem hk]; rfl
  rw [e i hi, e j hj]
  have hr := List.pairwise_iff_getElem.1 (lc_rising l l.length)
  obtain ⟨p, hp1, hp2, hp3⟩ := mem_lc.1 (List.getElem_mem hi)
  obtain ⟨q, hq1, hq2, hq3⟩ := mem_lc.1 (List.getElem_mem hj)
  have hpq : p ≠ q := by
    rcases Nat.lt_or_ge i j with h | h
    · have := hr i j hi hj h; omega
    · have := hr j i hj hi (by omega); omega
  rw [hp1, hq1]
  simpa using needed_apart hp2 hq2 hp3 hq3 hpq
end Go.Proofs.Ythlajmncpejhmaa
