/- How many points boxes have together, in plain Lean: point by point, place by place, part by part. No program in sight. -/
import Derived.Test.YthlajmncpejhmaaUnion
namespace Go.Proofs.Ythlajmncpejhmaa
set_option linter.unusedVariables false
open Go.ChangeShapes Go.WideShapes Go.ChangeAt Go.RowKit

/-! ### sums -/
def sumZ (a : Int) : Nat → (Int → Int) → Int
  | 0, _ => 0
  | n + 1, f => f a + sumZ (a + 1) n f
theorem sumZ_congr {f g : Int → Int} : ∀ (n : Nat) (a : Int), (∀ x, a ≤ x → x < a + n → f x = g x) → sumZ a n f = sumZ a n g
  | 0, _, _ => rfl
  | n + 1, a, h => by
    rw [sumZ, sumZ, h a (by omega) (by omega), sumZ_congr n (a + 1) fun x h1 h2 => h x (by omega) (by omega)]
theorem sumZ_add (f g : Int → Int) : ∀ (n : Nat) (a : Int), sumZ a n (fun x => f x + g x) = sumZ a n f + sumZ a n g
  | 0, _ => rfl
  | n + 1, a => by rw [sumZ, sumZ, sumZ, sumZ_add f g n]; omega
theorem sumZ_mul (c : Int) (f : Int → Int) : ∀ (n : Nat) (a : Int), sumZ a n (fun x => c * f x) = c * sumZ a n f
  | 0, _ => by simp [sumZ]
  | n + 1, a => by rw [sumZ, sumZ, sumZ_mul c f n, Int.mul_add]
theorem sumZ_app (f : Int → Int) : ∀ (n m : Nat) (a : Int), sumZ a (n + m) f = sumZ a n f + sumZ (a + n) m f
  | 0, m, a => by rw [Nat.zero_add, sumZ, Int.zero_add, show a + ((0 : Nat) : Int) = a by omega]
  | n + 1, m, a => by
    rw [show n + 1 + m = (n + m) + 1 by omega, sumZ, sumZ, sumZ_app f n m (a + 1), show a + 1 + (n : Int) = a + ((n + 1 : Nat) : Int) by omega]; omega
theorem sumZ_const (c : Int) : ∀ (n : Nat) (a : Int), sumZ a n (fun _ => c) = n * c
  | 0, _ => by simp [sumZ]
  | n + 1, a => by
    rw [sumZ, sumZ_const c n, show (((n + 1 : Nat) : Int)) = (n : Int) + 1 by omega, Int.add_mul]; omega
theorem sumZ_zero (n : Nat) (a : Int) : sumZ a n (fun _ => 0) = 0 := by rw [sumZ_const]; omega
theorem sumZ_nonneg {f : Int → Int} : ∀ (n : Nat) (a : Int), (∀ x, 0 ≤ f x) → 0 ≤ sumZ a n f
  | 0, _, _ => by simp [sumZ]
  | n + 1, a, h => by have h1 := sumZ_nonneg n (a + 1) h; have := h a; rw [sumZ]; omega
theorem sumZ_mono {f g : Int → Int} : ∀ (n : Nat) (a : Int), (∀ x, f x ≤ g x) → sumZ a n f ≤ sumZ a n g
  | 0, _, _ => by simp [sumZ]
  | n + 1, a, h => by have h1 := sumZ_mono n (a + 1) h; have := h a; rw [sumZ, sumZ]; omega
/-- a sum of what is c from lo to hi, and nothing else -/
theorem sumZ_box {c lo hi a : Int} {n : Nat} (h1 : a ≤ lo) (h2 : lo ≤ hi + 1) (h3 : hi < a + n) : sumZ a n (fun x => if lo ≤ x ∧ x ≤ hi then c else 0) = (hi - lo + 1) * c := by
  obtain ⟨i, hi'⟩ : ∃ i : Nat, lo = a + i := ⟨(lo - a).toNat, by omega⟩
  obtain ⟨j, hj⟩ : ∃ j : Nat, hi + 1 = lo + j := ⟨(hi + 1 - lo).toNat, by omega⟩
  obtain ⟨k, hk⟩ : ∃ k : Nat, n = i + (j + k) := ⟨n - i - j, by omega⟩
  rw [hk, sumZ_app, sumZ_app]
  rw [sumZ_congr (g := fun _ => 0) i a (fun x h4 h5 => if_neg (by omega)), sumZ_congr (g := fun _ => c) j (a + i) (fun x h4 h5 => if_pos (by omega)), sumZ_congr (g := fun _ => 0) k (a + i + j) (fun x h4 h5 => if_neg (by omega))]
  rw [sumZ_zero, sumZ_const, sumZ_zero, show hi - lo + 1 = (j : Int) by omega]; omega
/-- the sum over all points of d numbers -/
def sumP : Nat → (List Int → Int) → Int
  | 0, f => f []
  | d + 1, f => sumZ (-1000) 2001 fun x => sumP d fun r => f (x :: r)
def Pt (d : Nat) (r : List Int) : Prop := r.length = d ∧ ∀ x ∈ r, -1000 ≤ x ∧ x ≤ 1000
theorem sumP_congr : ∀ (d : Nat) {f g : List Int → Int}, (∀ r, Pt d r → f r = g r) → sumP d f = sumP d g
  | 0, _, _, h => h [] ⟨rfl, by simp⟩
  | d + 1, f, g, h => sumZ_congr _ _ fun x h1 h2 => sumP_congr d fun r hr => h (x :: r) ⟨by rw [List.length_cons, hr.1], fun y hy => by rcases List.mem_cons.1 hy with rfl | hy; exact ⟨h1, by omega⟩; exact hr.2 y hy⟩
theorem sumP_add : ∀ (d : Nat) (f g : List Int → Int), sumP d (fun r => f r + g r) = sumP d f + sumP d g
  | 0, _, _ => rfl
  | d + 1, f, g => by
    rw [sumP, sumP, sumP, ← sumZ_add]
    exact sumZ_congr _ _ fun x _ _ => sumP_add d (fun r => f (x :: r)) (fun r => g (x :: r))
theorem sumP_mul (c : Int) : ∀ (d : Nat) (f : List Int → Int), sumP d (fun r => c * f r) = c * sumP d f
  | 0, _ => rfl
  | d + 1, f => by
    rw [sumP, sumP, ← sumZ_mul]
    exact sumZ_congr _ _ fun x _ _ => sumP_mul c d (fun r => f (x :: r))
theorem sumP_zero : ∀ d, sumP d (fun _ => 0) = 0
  | 0 => rfl
  | d + 1 => by rw [sumP, sumP_zero d]; exact sumZ_zero _ _
theorem sumP_nonneg : ∀ (d : Nat) {f : List Int → Int}, (∀ r, 0 ≤ f r) → 0 ≤ sumP d f
  | 0, _, h => h []
  | d + 1, f, h => sumZ_nonneg _ _ fun x => sumP_nonneg d fun r => h (x :: r)
theorem sumP_mono : ∀ (d : Nat) {f g : List Int → Int}, (∀ r, f r ≤ g r) → sumP d f ≤ sumP d g
  | 0, _, _, h => h []
  | d + 1, f, g, h => sumZ_mono _ _ fun x => sumP_mono d fun r => h (x :: r)
def sumI {α : Type} (f : α → Int) : List α → Int
  | [] => 0
  | x :: l => f x + sumI f l
theorem sumI_app {α : Type} (f : α → Int) : ∀ (l m : List α), sumI f (l ++ m) = sumI f l + sumI f m
  | [], m => by rw [List.nil_append, sumI]; omega
  | x :: l, m => by rw [List.cons_append, sumI, sumI, sumI_app f l m]; omega
theorem sumP_list {α : Type} (d : Nat) (F : α → List Int → Int) : ∀ l : List α, sumP d (fun r => sumI (fun p => F p r) l) = sumI (fun p => sumP d (F p)) l
  | [] => sumP_zero d
  | p :: l => by rw [sumI, ← sumP_list d F l, ← sumP_add]; rfl

/-! ### boxes -/
def ind (b : Bx) (r : List Int) : Int := if hasR b r = true then 1 else 0
def volB : Bx → Int
  | [] => 1
  | s :: b => (s.2 - s.1 + 1) * volB b
def InR (b : Bx) : Prop := ∀ s ∈ b, -1000 ≤ s.1 ∧ s.1 ≤ s.2 ∧ s.2 ≤ 1000
theorem ind_cons (s : Int × Int) (b : Bx) (x : Int) (r : List Int) : ind (s :: b) (x :: r) = if s.1 ≤ x ∧ x ≤ s.2 then ind b r else 0 := by
  unfold ind
  rw [hasR]
  unfold inB
  by_cases h : s.1 ≤ x ∧ x ≤ s.2
  · rw [if_pos h]; simp [h.1, h.2]
  · rw [if_neg h]
    have : (decide (s.1 ≤ x) && decide (x ≤ s.2)) = false := by simp; omega
    simp [this]
theorem ind_nil (r : List Int) : ind [] r = 1 := by unfold ind; rw [hasR]; simp; simp
theorem ind_01 (b : Bx) (r : List Int) : ind b r = 0 ∨ ind b r = 1 := by unfold ind; split <;> simp
theorem vol_sum : ∀ b : Bx, InR b → sumP b.length (ind b) = volB b
  | [], _ => ind_nil []
  | s :: b, h => by
    have hs := h s (by simp)
    have ih := vol_sum b fun t ht => h t (by simp [ht])
    rw [List.length_cons, sumP, volB, ← ih, ← sumZ_box (c := sumP b.length (ind b)) (n := 2001) (a := -1000) (lo := s.1) (hi := s.2) (by omega) (by omega) (by omega)]
    refine sumZ_congr _ _ fun x _ _ => ?_
    by_cases hx : s.1 ≤ x ∧ x ≤ s.2
    · rw [if_pos hx]; exact sumP_congr _ fun r _ => by rw [ind_cons, if_pos hx]
    · rw [if_neg hx, ← sumP_zero b.length]; exact sumP_congr _ fun r _ => by rw [ind_cons, if_neg hx]
theorem vol_pos : ∀ b : Bx, InR b → 1 ≤ volB b
  | [], _ => Int.le_refl 1
  | s :: b, h => by
    have hs := h s (by simp)
    have ih := vol_pos b fun t ht => h t (by simp [ht])
    rw [volB]
    have h1 : 1 * 1 ≤ (s.2 - s.1 + 1) * volB b := Int.mul_le_mul (by omega) ih (by omega) (by omega)
    omega

/-! ### place by place -/
def thereR (x : Int) (L : List Bx) : List Bx := (L.filter fun b => inB x (b.getD 0 (0, 0)).1 (b.getD 0 (0, 0)).2).map List.tail
def cntB : Nat → List Bx → Int
  | 0, L => if L.isEmpty = true then 0 else 1
  | d + 1, L => sumZ (-1000) 2001 fun x => cntB d (thereR x L)
theorem cnt_none : ∀ d, cntB d [] = 0
  | 0 => rfl
  | d + 1 => by
    rw [cntB, ← sumZ_zero 2001 (-1000)]
    exact sumZ_congr _ _ fun x _ _ => cnt_none d
def anyI (L : List Bx) (r : List Int) : Int := if L.any (hasR · r) = true then 1 else 0
theorem any_there {d : Nat} {L : List Bx} (hl : ∀ b ∈ L, b.length = d + 1) (x : Int) (r : List Int) : (thereR x L).any (hasR · r) = L.any (hasR · (x :: r)) := by
  unfold thereR
  rw [List.any_map, List.any_filter]
  refine any_congr' fun b hb => ?_
  match b, hl b hb with
  | s :: b, _ => simp [hasR]
  where any_congr' {α : Type} {p q : α → Bool} : ∀ {l : List α}, (∀ x ∈ l, p x = q x) → l.any p = l.any q
    | [], _ => rfl
    | x :: l, h => by rw [List.any_cons, List.any_cons, h x (by simp), any_congr' fun y hy => h y (by simp [hy])]
theorem there_len {d : Nat} {L : List Bx} (hl : ∀ b ∈ L, b.length = d + 1) (x : Int) : ∀ b ∈ thereR x L, b.length = d := by
  intro b hb
  unfold thereR at hb
  obtain ⟨c, hc, rfl⟩ := List.mem_map.1 hb
  have := hl c (List.mem_filter.1 hc).1
  rw [List.length_tail]; omega
theorem cnt_any : ∀ (d : Nat) (L : List Bx), (∀ b ∈ L, b.length = d) → cntB d L = sumP d (anyI L)
  | 0, L, hl => by
    rw [cntB, sumP]
    unfold anyI
    match L, hl with
    | [], _ => rfl
    | b :: L, hl =>
      have : b = [] := List.length_eq_zero_iff.1 (hl b (by simp))
      subst this
      simp [hasR]
  | d + 1, L, hl => by
    rw [cntB, sumP]
    refine sumZ_congr _ _ fun x _ _ => ?_
    rw [cnt_any d (thereR x L) (there_len hl x)]
    refine sumP_congr d fun r _ => ?_
    unfold anyI
    rw [any_there hl]
/-- the sum over places that rise -/
def stepsI (g : Int → Int) : List Int → Int
  | p :: q :: r => (q - p) * g p + stepsI g (q :: r)
  | _ => 0
theorem steps_sum (g : Int → Int) : ∀ (ps : List Int) (p : Int), (p :: ps).Pairwise (· < ·) → (∀ x y, p ≤ y → y ≤ x → (∀ q ∈ p :: ps, ¬ (y < q ∧ q ≤ x)) → g x = g y) → ∃ n : Nat, ((p :: ps).getLast (by simp)) = p + n ∧ sumZ p n g = stepsI g (p :: ps)
  | [], p, _, _ => ⟨0, by simp, rfl⟩
  | q :: ps, p, hs, hg => by
    have hs' := List.pairwise_cons.1 hs
    have hpq := hs'.1 q (by simp)
    obtain ⟨n, h1, h2⟩ := steps_sum g ps q hs'.2 (fun x y hy hyx hq => hg x y (by omega) hyx fun z hz => by
      rcases List.mem_cons.1 hz with rfl | hz
      · omega
      · exact hq z hz)
    obtain ⟨k, hk⟩ : ∃ k : Nat, q = p + k := ⟨(q - p).toNat, by omega⟩
    refine ⟨k + n, ?_, ?_⟩
    · rw [List.getLast_cons (by simp), h1]; omega
    · rw [sumZ_app, stepsI, ← h2, hk, sumZ_congr (g := fun _ => g p) k p (fun x h3 h4 => hg x p (Int.le_refl _) h3 fun z hz => ?_), sumZ_const, show p + (k : Int) - p = k by omega]
      rcases List.mem_cons.1 hz with rfl | hz
      · omega
      · rcases List.mem_cons.1 hz with rfl | hz
        · omega
        · have := (List.pairwise_cons.1 hs'.2).1 z hz; omega
def edgeL (L : List Bx) : List Int := L.flatMap fun b => [(b.getD 0 (0, 0)).1, (b.getD 0 (0, 0)).2 + 1]
theorem mem_edge {L : List Bx} {b : Bx} (hb : b ∈ L) : (b.getD 0 (0, 0)).1 ∈ edgeL L ∧ (b.getD 0 (0, 0)).2 + 1 ∈ edgeL L := by
  unfold edgeL
  exact ⟨List.mem_flatMap.2 ⟨b, hb, by simp⟩, List.mem_flatMap.2 ⟨b, hb, by simp⟩⟩
theorem there_same {L : List Bx} {x y : Int} (hxy : y ≤ x) (h : ∀ q ∈ edgeL L, ¬ (y < q ∧ q ≤ x)) : thereR x L = thereR y L := by
  unfold thereR
  congr 1
  refine List.filter_congr fun b hb => ?_
  obtain ⟨h1, h2⟩ := mem_edge hb
  have e1 := h _ h1; have e2 := h _ h2
  unfold inB
  rw [Bool.eq_iff_iff]; simp only [Bool.and_eq_true, decide_eq_true_eq]; omega
/-- what is counted place by place is what is counted point by point -/
theorem cnt_steps {d : Nat} {L : List Bx} (hr : ∀ b ∈ L, -1000 ≤ (b.getD 0 (0, 0)).1 ∧ (b.getD 0 (0, 0)).1 ≤ (b.getD 0 (0, 0)).2 ∧ (b.getD 0 (0, 0)).2 ≤ 1000) {p : Int} {ps : List Int} (hs : (p :: ps).Pairwise (· < ·)) (hm : ∀ q, q ∈ p :: ps ↔ q ∈ edgeL L) :
    cntB (d + 1) L = stepsI (fun x => cntB d (thereR x L)) (p :: ps) := by
  obtain ⟨n, h1, h2⟩ := steps_sum (fun x => cntB d (thereR x L)) ps p hs (fun x y _ hyx hq => by
    show cntB d (thereR x L) = cntB d (thereR y L)
    rw [there_same hyx fun q hq' => hq q ((hm q).2 hq')])
  rw [cntB, ← h2]
  have hb : ∀ q ∈ edgeL L, -1000 ≤ q ∧ q ≤ 1001 := by
    intro q hq
    unfold edgeL at hq
    obtain ⟨b, hb, hq⟩ := List.mem_flatMap.1 hq
    have := hr b hb
    simp only [List.mem_cons, List.not_mem_nil, or_false] at hq
    omega
  have hp := hb p ((hm p).1 (by simp))
  have hl := hb _ ((hm _).1 (List.getLast_mem (l := p :: ps) (by simp)))
  rw [h1] at hl
  have hlast : ∀ q ∈ p :: ps, q ≤ p + n := by
    intro q hq
    rw [← h1]
    obtain ⟨i, hi, rfl⟩ := List.getElem_of_mem hq
    rw [List.getLast_eq_getElem]
    rcases Nat.lt_or_ge i ((p :: ps).length - 1) with h | h
    · exact Int.le_of_lt (List.pairwise_iff_getElem.1 hs i _ hi (by omega) h)
    · have : i = (p :: ps).length - 1 := by omega
      subst this; exact Int.le_refl _
  have hnone : ∀ x, (x < p ∨ p + n ≤ x) → cntB d (thereR x L) = 0 := by
    intro x hx
    have : thereR x L = [] := by
      unfold thereR
      rw [List.map_eq_nil_iff, List.filter_eq_nil_iff]
      intro b hb'
      obtain ⟨m1, m2⟩ := mem_edge hb'
      have l1 := hlast _ ((hm _).2 m2)
      have l2 : p ≤ (b.getD 0 (0, 0)).1 := by
        rcases List.mem_cons.1 ((hm _).2 m1) with h | h
        · omega
        · exact Int.le_of_lt ((List.pairwise_cons.1 hs).1 _ h)
      unfold inB
      simp only [Bool.and_eq_true, decide_eq_true_eq]; omega
    rw [this]; exact cnt_none d
  obtain ⟨i, hi⟩ : ∃ i : Nat, p = -1000 + i := ⟨(p + 1000).toNat, by omega⟩
  obtain ⟨k, hk⟩ : ∃ k : Nat, 2001 = i + (n + k) := ⟨2001 - i - n, by omega⟩
  rw [hk, sumZ_app, sumZ_app, sumZ_congr (g := fun _ => 0) i (-1000) (fun x h3 h4 => hnone x (by omega)), sumZ_zero, sumZ_congr (g := fun _ => 0) k _ (fun x h3 h4 => hnone x (by omega)), sumZ_zero, ← hi]
  omega

/-! ### part by part -/
def cutF : Bx → Bx → Bx → List Bx
  | pre, s :: a, o :: b => (if s.1 < o.1 then [pre ++ (s.1, o.1 - 1) :: a] else []) ++ ((if o.2 < s.2 then [pre ++ (o.2 + 1, s.2) :: a] else []) ++ cutF (pre ++ [(max s.1 o.1, min s.2 o.2)]) a b)
  | _, _, _ => []
def meetB (a b : Bx) : Bool := (a.zip b).all fun p => decide (max p.1.1 p.2.1 ≤ min p.1.2 p.2.2)
def cutS (a b : Bx) : List Bx := if meetB a b = true then cutF [] a b else [a]
theorem ind_app : ∀ (p q : Bx) (r s : List Int), p.length = r.length → ind (p ++ q) (r ++ s) = ind p r * ind q s
  | [], q, [], s, _ => by rw [ind_nil]; simp
  | x :: p, q, y :: r, s, h => by
    rw [List.cons_append, List.cons_append, ind_cons, ind_cons]
    split
    · exact ind_app p q r s (by simpa using h)
    · simp
theorem cutF_sum : ∀ (a b pre : Bx) (r q : List Int), a.length = b.length → q.length = a.length → pre.length = r.length → meetB a b = true → InR a → sumI (fun p => ind p (r ++ q)) (cutF pre a b) = ind pre r * (ind a q - ind a q * ind b q)
  | [], [], pre, r, [], _, _, _, _, _ => by simp [cutF, sumI, ind_nil]
  | s :: a, o :: b, pre, r, y :: q, h1, h2, h3, hm, hr => by
    unfold meetB at hm
    rw [List.zip_cons_cons, List.all_cons, Bool.and_eq_true, decide_eq_true_eq] at hm
    have hs := hr s (by simp)
    have ih := cutF_sum a b (pre ++ [(max s.1 o.1, min s.2 o.2)]) (r ++ [y]) q (by simpa using h1) (by simpa using h2) (by simp [h3]) hm.2 fun t ht => hr t (by simp [ht])
    rw [cutF, sumI_app, sumI_app, ind_cons, ind_cons]
    rw [show r ++ y :: q = (r ++ [y]) ++ q by simp, ih, ind_app pre [_] r [y] h3, ind_cons, ind_nil, show (r ++ [y]) ++ q = r ++ y :: q by simp]
    have hm1 := hm.1
    simp only at hm1
    have e1 : sumI (fun p => ind p (r ++ y :: q)) (if s.1 < o.1 then [pre ++ (s.1, o.1 - 1) :: a] else []) = if s.1 ≤ y ∧ y ≤ o.1 - 1 then ind pre r * ind a q else 0 := by
      by_cases h : s.1 < o.1
      · rw [if_pos h, sumI, sumI, ind_app pre _ r _ h3, ind_cons]
        simp only
        split <;> simp
      · rw [if_neg h, sumI, if_neg (by omega)]
    have e2 : sumI (fun p => ind p (r ++ y :: q)) (if o.2 < s.2 then [pre ++ (o.2 + 1, s.2) :: a] else []) = if o.2 + 1 ≤ y ∧ y ≤ s.2 then ind pre r * ind a q else 0 := by
      by_cases h : o.2 < s.2
      · rw [if_pos h, sumI, sumI, ind_app pre _ r _ h3, ind_cons]
        simp only
        split <;> simp
      · rw [if_neg h, sumI, if_neg (by omega)]
    rw [e1, e2]
    by_cases c1 : s.1 ≤ y ∧ y ≤ s.2
    · by_cases c2 : o.1 ≤ y ∧ y ≤ o.2
      · rw [if_neg (by omega), if_neg (by omega), if_pos (by omega), if_pos c1, if_pos c2]; simp
      · rw [if_pos c1, if_neg c2]
        by_cases c3 : y ≤ o.1 - 1
        · rw [if_pos (by omega), if_neg (by omega), if_neg (by omega)]; simp
        · rw [if_neg (by omega), if_pos (by omega), if_neg (by omega)]; simp
    · rw [if_neg c1, if_neg (by omega), if_neg (by omega), if_neg (by omega)]; simp
theorem ind_apart : ∀ (a b : Bx) (q : List Int), a.length = b.length → q.length = a.length → meetB a b = false → ind a q * ind b q = 0
  | [], [], [], _, _, h => by simp [meetB] at h
  | s :: a, o :: b, y :: q, h1, h2, h => by
    unfold meetB at h
    rw [List.zip_cons_cons, List.all_cons, Bool.and_eq_false_iff] at h
    rw [ind_cons, ind_cons]
    by_cases c1 : s.1 ≤ y ∧ y ≤ s.2
    · by_cases c2 : o.1 ≤ y ∧ y ≤ o.2
      · rw [if_pos c1, if_pos c2]
        rcases h with h | h
        · simp only [decide_eq_false_iff_not] at h; omega
        · exact ind_apart a b q (by simpa using h1) (by simpa using h2) h
      · rw [if_neg c2]; simp
    · rw [if_neg c1]; simp
theorem cutS_sum {a b : Bx} {q : List Int} (h1 : a.length = b.length) (h2 : q.length = a.length) (hr : InR a) : sumI (fun p => ind p q) (cutS a b) = ind a q - ind a q * ind b q := by
  unfold cutS
  by_cases h : meetB a b = true
  · rw [if_pos h]
    have := cutF_sum a b [] [] q h1 h2 rfl h hr
    rw [ind_nil] at this
    simpa using this
  · rw [if_neg h, sumI, sumI, ind_apart a b q h1 h2 (by simpa using h)]; omega
theorem cutF_good : ∀ (a b pre : Bx), a.length = b.length → meetB a b = true → InR a → InR b → InR pre → ∀ p ∈ cutF pre a b, InR p ∧ p.length = pre.length + a.length
  | [], [], pre, _, _, _, _, _ => by simp [cutF]
  | s :: a, o :: b, pre, h1, hm, hr, hb, hp => by
    unfold meetB at hm
    rw [List.zip_cons_cons, List.all_cons, Bool.and_eq_true, decide_eq_true_eq] at hm
    have hm1 := hm.1
    simp only at hm1
    have hs := hr s (by simp); have ho := hb o (by simp)
    have hcons : ∀ t : Int × Int, (-1000 ≤ t.1 ∧ t.1 ≤ t.2 ∧ t.2 ≤ 1000) → InR (pre ++ t :: a) := by
      intro t ht x hx
      rcases List.mem_append.1 hx with hx | hx
      · exact hp x hx
      · rcases List.mem_cons.1 hx with rfl | hx
        · exact ht
        · exact hr x (by simp [hx])
    have ih := cutF_good a b (pre ++ [(max s.1 o.1, min s.2 o.2)]) (by simpa using h1) hm.2 (fun t ht => hr t (by simp [ht])) (fun t ht => hb t (by simp [ht])) (by
      intro x hx
      rcases List.mem_append.1 hx with hx | hx
      · exact hp x hx
      · simp at hx; subst hx; simp only; omega)
    intro p hp'
    rw [cutF] at hp'
    rcases List.mem_append.1 hp' with h | h
    · split at h
      · simp at h; subst h; exact ⟨hcons _ (by simp only; omega), by simp⟩
      · simp at h
    · rcases List.mem_append.1 h with h | h
      · split at h
        · simp at h; subst h; exact ⟨hcons _ (by simp only; omega), by simp⟩
        · simp at h
      · obtain ⟨q1, q2⟩ := ih p h
        exact ⟨q1, by rw [q2]; simp; omega⟩
theorem cutS_good {a b : Bx} (h1 : a.length = b.length) (hr : InR a) (hb : InR b) : ∀ p ∈ cutS a b, InR p ∧ p.length = a.length := by
  unfold cutS
  by_cases h : meetB a b = true
  · rw [if_pos h]
    intro p hp
    have := cutF_good a b [] h1 h hr hb (by intro x hx; simp at hx) p hp
    simpa using this
  · rw [if_neg h]; intro p hp; simp at hp; subst hp; exact ⟨hr, rfl⟩
/-- the parts of a box that lie in none of others -/
def partsR (b : Bx) (os : List Bx) : List Bx := os.foldl (fun ps o => ps.flatMap (cutS · o)) [b]
theorem sumI_flat {α β : Type} (f : β → Int) (g : α → List β) : ∀ l : List α, sumI f (l.flatMap g) = sumI (fun x => sumI f (g x)) l
  | [] => rfl
  | x :: l => by rw [List.flatMap_cons, sumI_app, sumI, sumI_flat f g l]
theorem sumI_congr {α : Type} {f g : α → Int} : ∀ {l : List α}, (∀ x ∈ l, f x = g x) → sumI f l = sumI g l
  | [], _ => rfl
  | x :: l, h => by rw [sumI, sumI, h x (by simp), sumI_congr fun y hy => h y (by simp [hy])]
theorem sumI_mulr {α : Type} (f : α → Int) (c : Int) : ∀ l : List α, sumI (fun x => f x * c) l = sumI f l * c
  | [] => by simp [sumI]
  | x :: l => by rw [sumI, sumI, sumI_mulr f c l, Int.add_mul]
def Ok3 (b : Bx) : Prop := InR b ∧ b.length = 3
theorem parts_inv (os : List Bx) (ho : ∀ o ∈ os, Ok3 o) : ∀ (ps : List Bx), (∀ p ∈ ps, Ok3 p) → (∀ p ∈ os.foldl (fun ps o => ps.flatMap (cutS · o)) ps, Ok3 p) ∧ ∀ q, Pt 3 q → sumI (fun p => ind p q) (os.foldl (fun ps o => ps.flatMap (cutS · o)) ps) = if os.any (hasR · q) = true then 0 else sumI (fun p => ind p q) ps := by
  induction os with
  | nil => intro ps hp; exact ⟨hp, fun q _ => by simp⟩
  | cons o os ih =>
    intro ps hp
    have h3 := ho o (by simp)
    have hp2 : ∀ p ∈ ps.flatMap (cutS · o), Ok3 p := by
      intro p hm
      obtain ⟨a, ha, hc⟩ := List.mem_flatMap.1 hm
      have := hp a ha
      have hg := cutS_good (by rw [this.2, h3.2]) this.1 h3.1 p hc
      exact ⟨hg.1, by rw [hg.2, this.2]⟩
    obtain ⟨k1, k2⟩ := ih (fun x hx => ho x (by simp [hx])) _ hp2
    refine ⟨k1, fun q hq => ?_⟩
    rw [List.foldl_cons, k2 q hq, sumI_flat, sumI_congr (g := fun p => ind p q * (1 - ind o q)) (fun p hm => by
      have := hp p hm
      rw [cutS_sum (by rw [this.2, h3.2]) (by rw [hq.1, this.2]) this.1, Int.mul_sub, Int.mul_one]), sumI_mulr]
    rw [List.any_cons]
    by_cases h : hasR o q = true
    · have : ind o q = 1 := if_pos h
      rw [this, h]; simp
    · have : ind o q = 0 := if_neg h
      rw [this, Bool.not_eq_true _ |>.mp h]; simp
def volumeR (l : List Bx) : Int := cntB 3 l
/-- the parts of each box that lie in none ahead of it, together -/
def partSum (l : List Bx) (i : Nat) : Int := sumI volB (partsR (l.getD i []) (l.take i))
theorem parts_vol {b : Bx} {os : List Bx} (hb : Ok3 b) (ho : ∀ o ∈ os, Ok3 o) : sumI volB (partsR b os) = sumP 3 (fun q => if os.any (hasR · q) = true then 0 else ind b q) := by
  obtain ⟨h1, h2⟩ := parts_inv os ho [b] (by intro p hp; simp at hp; subst hp; exact hb)
  rw [show sumI volB (partsR b os) = sumI (fun p => sumP 3 (ind p)) (partsR b os) from sumI_congr fun p hp => by
    have := h1 p hp
    rw [← vol_sum p this.1, this.2], ← sumP_list]
  refine sumP_congr 3 fun q hq => ?_
  rw [show sumI (fun p => ind p q) (partsR b os) = _ from h2 q hq]
  split
  · rfl
  · rw [sumI, sumI]; omega
theorem vol_parts {l : List Bx} (hl : ∀ b ∈ l, Ok3 b) : ∀ i, i ≤ l.length → sumI (partSum l) (List.range i) = cntB 3 (l.take i)
  | 0, _ => by rw [List.take_zero, cnt_none]; rfl
  | i + 1, hi => by
    have ih := vol_parts hl i (by omega)
    have hx : l[i]? = some l[i] := List.getElem?_eq_getElem (by omega)
    have hg : l.getD i [] = l[i] := by simp [List.getD, hx]
    have hk : ∀ o ∈ l.take i, Ok3 o := fun o ho => hl o (List.mem_of_mem_take ho)
    rw [List.range_succ, sumI_app, ih, sumI, sumI, partSum, hg, parts_vol (hl _ (List.getElem_mem _)) hk, cnt_any 3 (l.take i) (fun b hb => (hk b hb).2), cnt_any 3 (l.take (i + 1)) (fun b hb => (hl b (List.mem_of_mem_take hb)).2), Int.add_zero, ← sumP_add]
    refine sumP_congr 3 fun q _ => ?_
    unfold anyI
    rw [take_next l i _ hx, List.any_append]
    cases (l.take i).any (hasR · q) with
    | true => simp
    | false => simp [ind]
end Go.Proofs.Ythlajmncpejhmaa
