/- Laws for a walk through a region that draws its order: loads are taken first under a condition that is asked for only till one of the named operations has come up. No function of the program is named here. -/
import Derived.Test.YtmlnecopbncdbaaBase
import Derived.OrdersHeld
import Derived.StillTail
import Derived.Deep.RegionHeld3
namespace Go.Proofs.Ytmlnecopbncdbaa
set_option linter.unusedVariables false
set_option linter.unusedSimpArgs false
open Go.ChangeShapes Go.WideShapes Go.ChangeAt Go.RowKit

section
variable {P : Program} {ops : Array Oper} {Q : Exit → Act → World → Prop} {md : Region.Mode} {bad : List Nat} {F : World → Prop}

/-- F holds of the world, or one of the operations 'bad' has come up. -/
def SG (bad : List Nat) (F : World → Prop) (listed : Array Bool) (w : World) : Prop := (bad.any fun j => listed.getD j false) = true ∨ F w

/-- Whatever order is picked from here on; till one of 'bad' has come up F holds behind every operation. -/
def wpG (P : Program) (md : Region.Mode) (ops : Array Oper) (Q : Exit → Act → World → Prop) (bad : List Nat) (F : World → Prop) : Nat → Array Bool → Act → World → Prop
  | 0, listed, a, w => Region.ready md ops listed = [] ∧ Q .normal a w
  | fuel + 1, listed, a, w =>
    (Region.ready md ops listed = [] → Q .normal a w) ∧
    ∀ i ∈ Region.ready md ops listed, wpOp P ops Q i (fun a' w' => SG bad F (listed.setIfInBounds i true) w' ∧ wpG P md ops Q bad F fuel (listed.setIfInBounds i true) a' w') a w

theorem wpAny_of_G : ∀ (fuel : Nat) (listed : Array Bool) (a : Act) (w : World), wpG P md ops Q bad F fuel listed a w → wpAny P md ops Q fuel listed a w
  | 0, _, _, _, h => h
  | fuel + 1, _, _, _, h => ⟨h.1, fun i hi => wpOp_mono (fun a' w' h' => wpAny_of_G fuel _ a' w' h'.2) (h.2 i hi)⟩

def Down (md : Region.Mode) (ops : Array Oper) (listed : Array Bool) : Prop :=
  ∀ i o, ops[i]? = some o → listed.getD i false = true → ∀ e ∈ o.after, Region.binds md e = true → listed.getD e.on false = true
def downB (md : Region.Mode) (ops : Array Oper) (listed : Array Bool) : Bool :=
  (List.range ops.size).all fun i => !listed.getD i false || match ops[i]? with | none => true | some o => o.after.toList.all fun e => !Region.binds md e || listed.getD e.on false
theorem down_of {listed : Array Bool} (h : downB md ops listed = true) : Down md ops listed := by
  intro i o ho hl e he hb
  simp only [downB, List.all_eq_true, List.mem_range] at h
  have := h i (Array.getElem?_eq_some_iff.1 ho).1
  rw [hl, ho] at this
  simp only [Bool.not_true, Bool.false_or, List.all_eq_true] at this
  have := this e (by simpa using he)
  rw [hb] at this
  simpa using this
theorem Down.set {listed : Array Bool} (h : Down md ops listed) {i : Nat} (hr : i ∈ Region.ready md ops listed) : Down md ops (listed.setIfInBounds i true) := by
  intro k o ho hk e he hb
  by_cases hki : i = k
  · subst hki
    obtain ⟨_, o', ho', hall⟩ := mem_ready.1 hr
    rw [ho] at ho'; cases ho'
    exact getD_set_true (hall e he hb)
  · rw [getD_set_ne false hki] at hk
    exact getD_set_true (h k o ho hk e he hb)

/-- a way down by the edges -/
def wayB (md : Region.Mode) (ops : Array Oper) : List Nat → Bool
  | j :: k :: r => (match ops[j]? with | none => false | some o => o.after.toList.any fun e => Region.binds md e && decide (e.on = k)) && wayB md ops (k :: r)
  | _ => true
theorem way_down {listed : Array Bool} (hd : Down md ops listed) : ∀ (r : List Nat) (j i : Nat), wayB md ops (j :: r) = true → (j :: r).getLast? = some i → listed.getD j false = true → listed.getD i false = true
  | [], j, i, _, hl, h => by simp at hl; subst hl; exact h
  | k :: r, j, i, hw, hl, h => by
    simp only [wayB, Bool.and_eq_true] at hw
    cases ho : ops[j]? with
    | none => rw [ho] at hw; exact absurd hw.1 (by simp)
    | some o =>
      rw [ho] at hw
      simp only [List.any_eq_true, Bool.and_eq_true, decide_eq_true_eq] at hw
      obtain ⟨⟨e, he, hb, hk⟩, hw2⟩ := hw
      subst hk
      exact way_down hd r e.on i hw2 (by simpa using hl) (hd j o ho h e (by simpa using he) hb)
/-- each of bad comes up only behind i: told by ways -/
def waysB (md : Region.Mode) (ops : Array Oper) (bad : List Nat) (i : Nat) (ways : List (List Nat)) : Bool :=
  bad.all fun j => j != i && ways.any fun r => r.head? == some j && r.getLast? == some i && wayB md ops r
theorem no_bad {listed : Array Bool} (hd : Down md ops listed) {i : Nat} {ways : List (List Nat)} (h : waysB md ops bad i ways = true) (hi : listed.getD i false = false) : (bad.any fun j => listed.getD j false) = false := by
  rw [List.any_eq_false]
  intro j hj hl
  simp only [waysB, List.all_eq_true] at h
  have := h j hj
  simp only [Bool.and_eq_true, beq_iff_eq, List.any_eq_true] at this
  obtain ⟨_, r, hr, ⟨h1, h2⟩, h3⟩ := this
  cases r with
  | nil => simp at h1
  | cons k r =>
    simp at h1; subst h1
    have := way_down hd r k i h3 h2 hl
    rw [hi] at this; cases this
theorem not_bad {i : Nat} {ways : List (List Nat)} (h : waysB md ops bad i ways = true) : i ∉ bad := by
  intro hi
  simp only [waysB, List.all_eq_true] at h
  have := h i hi
  simp at this
theorem SG.unset {listed : Array Bool} {i : Nat} {w : World} (hi : i ∉ bad) (h : SG bad F (listed.setIfInBounds i true) w) : SG bad F listed w := by
  rcases h with h | h
  · refine .inl ?_
    rw [List.any_eq_true] at *
    obtain ⟨k, hk, hl⟩ := h
    refine ⟨k, hk, ?_⟩
    rw [getD_set_ne false (fun e => hi (by rw [e]; exact hk))] at hl
    exact hl
  · exact .inr h

theorem wpG_first {i : Nat} {oi : Oper} {v : Value} (hi : ops[i]? = some oi) (hsel : ∀ (j : Nat) (o : Oper) cs b, ops[j]? = some o → o.op ≠ .select cs b)
    (hQ : ∀ c a w, Q (.panic c) (a.put oi.dst v) w → Q (.panic c) a w) {ways : List (List Nat)} (hways : waysB md ops bad i ways = true) :
    ∀ (fuel : Nat) (listed : Array Bool) (a : Act) (w : World),
      (∀ j oj, ops[j]? = some oj → j ≠ i → listed.getD j true = false → (∀ e ∈ oj.after, Region.binds md e = true → e.on ≠ i) → oi.apart ops oj = true) →
      Down md ops listed → i ∈ Region.ready md ops listed → YieldsIf P ops F oi v a → F w →
      wpG P md ops Q bad F fuel (listed.setIfInBounds i true) (a.put oi.dst v) w → wpG P md ops Q bad F (fuel + 1) listed a w := by
  intro fuel
  induction fuel with
  | zero =>
    intro listed a w _ hd hr hy hS H
    refine ⟨fun h => (by rw [h] at hr; cases hr), fun j hj => ?_⟩
    by_cases hji : j = i
    · subst hji; exact hy.wpOp hi hS ⟨.inr hS, H⟩
    · have := ready_mono hj hji
      rw [H.1] at this
      cases this
  | succ fuel ih =>
    intro listed a w hfree hd hr hy hS H
    refine ⟨fun h => (by rw [h] at hr; cases hr), fun j hj => ?_⟩
    by_cases hji : j = i
    · subst hji; exact hy.wpOp hi hS ⟨.inr hS, H⟩
    · have h1 := H.2 j (ready_mono hj hji)
      obtain ⟨hjun, oj, hoj, hall⟩ := mem_ready.1 hj
      have hiun := getD_both (mem_ready.1 hr).1
      have hnot : ∀ e ∈ oj.after, Region.binds md e = true → e.on ≠ i := fun e he hb heq => by
        have h1 := hall e he hb
        rw [heq, hiun] at h1
        cases h1
      have h2 := wpOp_putIf hoj (hfree j oj hoj hji hjun hnot) (fun cs b => hsel i oi cs b hi) (fun cs b => hsel j oj cs b hoj) hQ hy h1
      have hfree' : ∀ k ok, ops[k]? = some ok → k ≠ i → (listed.setIfInBounds j true).getD k true = false →
          (∀ e ∈ ok.after, Region.binds md e = true → e.on ≠ i) → oi.apart ops ok = true := fun k ok hk hki hun hno => by
        refine hfree k ok hk hki ?_ hno
        by_cases hjk : j = k
        · subst hjk; exact hjun
        · rw [getD_set_ne true hjk] at hun; exact hun
      have hd' := hd.set hj
      have hiun' : (listed.setIfInBounds j true).getD i false = false := by rw [getD_set_ne false hji]; exact hiun
      have hnb := no_bad hd' hways hiun'
      have hset : (listed.setIfInBounds i true).setIfInBounds j true = (listed.setIfInBounds j true).setIfInBounds i true := Array.setIfInBounds_comm _ _ (Ne.symm hji)
      refine wpOp_mono (fun a' w' h3 => ?_) h2
      -- F at the world behind j
      have hF : F w' := by
        have := h3.2.1
        rw [hset] at this
        rcases this.unset (not_bad hways) with hb | hF
        · rw [hnb] at hb; cases hb
        · exact hF
      refine ⟨.inr hF, ih (listed.setIfInBounds j true) a' w' hfree' hd' (ready_mono hr (Ne.symm hji)) h3.1 hF ?_⟩
      rw [← hset]
      exact h3.2.2

/-- the same of an operation that yields in whatever world -/
theorem wpG_firstP {i : Nat} {oi : Oper} {v : Value} (hi : ops[i]? = some oi) (hsel : ∀ (j : Nat) (o : Oper) cs b, ops[j]? = some o → o.op ≠ .select cs b)
    (hQ : ∀ c a w, Q (.panic c) (a.put oi.dst v) w → Q (.panic c) a w) (hbad : i ∉ bad) :
    ∀ (fuel : Nat) (listed : Array Bool) (a : Act) (w : World),
      (∀ j oj, ops[j]? = some oj → j ≠ i → listed.getD j true = false → (∀ e ∈ oj.after, Region.binds md e = true → e.on ≠ i) → oi.apart ops oj = true) →
      i ∈ Region.ready md ops listed → YieldsIf P ops (fun _ => True) oi v a → SG bad F listed w →
      wpG P md ops Q bad F fuel (listed.setIfInBounds i true) (a.put oi.dst v) w → wpG P md ops Q bad F (fuel + 1) listed a w := by
  intro fuel
  have own : ∀ (listed : Array Bool) (w : World), SG bad F listed w → SG bad F (listed.setIfInBounds i true) w := by
    intro listed w h
    rcases h with h | h
    · refine .inl ?_
      rw [List.any_eq_true] at *
      obtain ⟨k, hk, hl⟩ := h
      exact ⟨k, hk, getD_set_true hl⟩
    · exact .inr h
  induction fuel with
  | zero =>
    intro listed a w _ hr hy hS H
    refine ⟨fun h => (by rw [h] at hr; cases hr), fun j hj => ?_⟩
    by_cases hji : j = i
    · subst hji; exact hy.wpOp hi trivial ⟨own _ _ hS, H⟩
    · have := ready_mono hj hji
      rw [H.1] at this
      cases this
  | succ fuel ih =>
    intro listed a w hfree hr hy hS H
    refine ⟨fun h => (by rw [h] at hr; cases hr), fun j hj => ?_⟩
    by_cases hji : j = i
    · subst hji; exact hy.wpOp hi trivial ⟨own _ _ hS, H⟩
    · have h1 := H.2 j (ready_mono hj hji)
      obtain ⟨hjun, oj, hoj, hall⟩ := mem_ready.1 hj
      have hiun := getD_both (mem_ready.1 hr).1
      have hnot : ∀ e ∈ oj.after, Region.binds md e = true → e.on ≠ i := fun e he hb heq => by
        have h1 := hall e he hb
        rw [heq, hiun] at h1
        cases h1
      have h2 := wpOp_putIf hoj (hfree j oj hoj hji hjun hnot) (fun cs b => hsel i oi cs b hi) (fun cs b => hsel j oj cs b hoj) hQ hy h1
      have hfree' : ∀ k ok, ops[k]? = some ok → k ≠ i → (listed.setIfInBounds j true).getD k true = false →
          (∀ e ∈ ok.after, Region.binds md e = true → e.on ≠ i) → oi.apart ops ok = true := fun k ok hk hki hun hno => by
        refine hfree k ok hk hki ?_ hno
        by_cases hjk : j = k
        · subst hjk; exact hjun
        · rw [getD_set_ne true hjk] at hun; exact hun
      have hset : (listed.setIfInBounds i true).setIfInBounds j true = (listed.setIfInBounds j true).setIfInBounds i true := Array.setIfInBounds_comm _ _ (Ne.symm hji)
      refine wpOp_mono (fun a' w' h3 => ?_) h2
      have hF : SG bad F (listed.setIfInBounds j true) w' := by
        have := h3.2.1
        rw [hset] at this
        exact this.unset hbad
      refine ⟨hF, ih (listed.setIfInBounds j true) a' w' hfree' (ready_mono hr (Ne.symm hji)) h3.1 hF ?_⟩
      rw [← hset]
      exact h3.2.2

theorem SG.held {listed : Array Bool} {w : World} (h : SG bad F listed w) (hn : (bad.any fun j => listed.getD j false) = false) : F w := by
  rcases h with h | h
  · rw [hn] at h; cases h
  · exact h
theorem cell_alloc {w : World} {b i : Nat} {v : Value} (o : Obj) (h : w.cell? ⟨b, i, none⟩ = some v) : (w.alloc o).cell? ⟨b, i, none⟩ = some v := below_later ((Below.refl _ _).alloc (Nat.le_refl _) o) h
theorem frozen_alloc {w : World} {b i : Nat} (o : Obj) (hl : b < w.heap.size) (h : w.frozen? ⟨b, i, none⟩ = false) : (w.alloc o).frozen? ⟨b, i, none⟩ = false := (((Below.refl _ _).alloc (Nat.le_refl _) o).frozen (p := ⟨b, i, none⟩) hl).trans h
theorem below_undrewG {w w' : World} {row : Option Nat} (h : w.drew.grownBy w' row) : w.grownBy w' row := ⟨h.os, h.tape, h.output, h.size, h.block⟩
theorem below_alloc_drew (w : World) (o : Obj) : Below w.drew.heap.size w.drew (w.alloc o).drew := by
  have h := (Below.refl w.heap.size w).alloc (Nat.le_refl _) o
  exact ⟨h.os, h.tape, h.output, h.size, h.block⟩

/-! ### the moves of a walk -/
/-- take a load first: it may come up, in every world that meets F it yields v, none of 'bad' may come ahead of it -/
theorem wpG_load {i : Nat} {oi : Oper} {v : Value} {fuel : Nat} {listed : Array Bool} {a : Act} {w : World} (ways : List (List Nat)) (hi : ops[i]? = some oi)
    (hc : (Region.noSelect ops && Region.free md ops listed i && (Region.ready md ops listed).contains i && waysB md ops bad i ways && downB md ops listed) = true)
    (hQ : ∀ c a w, Q (.panic c) (a.put oi.dst v) w → Q (.panic c) a w) (hS : F w) (hy : YieldsIf P ops F oi v a)
    (h : wpG P md ops Q bad F fuel (listed.setIfInBounds i true) (a.put oi.dst v) w) : wpG P md ops Q bad F (fuel + 1) listed a w := by
  simp only [Bool.and_eq_true] at hc
  obtain ⟨⟨⟨⟨h1, h2⟩, h3⟩, h4⟩, h5⟩ := hc
  exact wpG_first hi (Region.noSelect_spec h1) hQ h4 fuel listed a w (Region.free_spec hi h2) (down_of h5) (by simpa using h3) hy hS h
/-- take first what yields in whatever world -/
theorem wpG_pure {i : Nat} {oi : Oper} {v : Value} {fuel : Nat} {listed : Array Bool} {a : Act} {w : World} (hi : ops[i]? = some oi)
    (hc : (Region.noSelect ops && Region.free md ops listed i && (Region.ready md ops listed).contains i && !bad.contains i) = true)
    (hQ : ∀ c a w, Q (.panic c) (a.put oi.dst v) w → Q (.panic c) a w) (hS : SG bad F listed w) (hy : YieldsIf P ops (fun _ => True) oi v a)
    (h : wpG P md ops Q bad F fuel (listed.setIfInBounds i true) (a.put oi.dst v) w) : wpG P md ops Q bad F (fuel + 1) listed a w := by
  simp only [Bool.and_eq_true] at hc
  obtain ⟨⟨⟨h1, h2⟩, h3⟩, h4⟩ := hc
  exact wpG_firstP hi (Region.noSelect_spec h1) hQ (by simpa using h4) fuel listed a w (Region.free_spec hi h2) (by simpa using h3) hy hS h
/-- but one may come up: it is carried out -/
theorem wpG_one {i : Nat} {o : Oper} {fuel : Nat} {listed : Array Bool} {a : Act} {w : World} (ho : ops[i]? = some o) (hr : decide (Region.ready md ops listed = [i]) = true)
    (h : ∀ K : Act → World → Prop, Shut (∀ a w, SG bad F (listed.setIfInBounds i true) w → (SG bad F (listed.setIfInBounds i true) w → wpG P md ops Q bad F fuel (listed.setIfInBounds i true) a w) → K a w) → if Region.wanted o (yielded ops a.tmps) = true then Oper.wp P o a w K Q else K (a.put o.dst undef) w) :
    wpG P md ops Q bad F (fuel + 1) listed a w := by
  have hr' := of_decide_eq_true hr
  refine ⟨fun h0 => (by rw [hr'] at h0; cases h0), fun j hj => ?_⟩
  rw [hr'] at hj
  obtain rfl : j = i := by simpa using hj
  exact wpOp_step ho (fun K' hK => h K' (fun a w hS hW => hK a w ⟨hS, hW hS⟩))
/-- two may come up -/
theorem wpG_two {i j : Nat} {o o' : Oper} {fuel : Nat} {listed : Array Bool} {a : Act} {w : World} (ho : ops[i]? = some o) (ho' : ops[j]? = some o') (hr : decide (Region.ready md ops listed = [i, j]) = true)
    (h : ∀ K : Act → World → Prop, Shut (∀ a w, SG bad F (listed.setIfInBounds i true) w → (SG bad F (listed.setIfInBounds i true) w → wpG P md ops Q bad F fuel (listed.setIfInBounds i true) a w) → K a w) → if Region.wanted o (yielded ops a.tmps) = true then Oper.wp P o a w K Q else K (a.put o.dst undef) w)
    (h' : ∀ K : Act → World → Prop, Shut (∀ a w, SG bad F (listed.setIfInBounds j true) w → (SG bad F (listed.setIfInBounds j true) w → wpG P md ops Q bad F fuel (listed.setIfInBounds j true) a w) → K a w) → if Region.wanted o' (yielded ops a.tmps) = true then Oper.wp P o' a w K Q else K (a.put o'.dst undef) w) :
    wpG P md ops Q bad F (fuel + 1) listed a w := by
  have hr' := of_decide_eq_true hr
  refine ⟨fun h0 => (by rw [hr'] at h0; cases h0), fun k hk => ?_⟩
  rw [hr'] at hk
  rcases List.mem_cons.1 hk with rfl | hk
  · exact wpOp_step ho (fun K' hK => h K' (fun a w hS hW => hK a w ⟨hS, hW hS⟩))
  · obtain rfl : k = j := by simpa using hk
    exact wpOp_step ho' (fun K' hK => h' K' (fun a w hS hW => hK a w ⟨hS, hW hS⟩))
theorem wpG_done {fuel : Nat} {listed : Array Bool} {a : Act} {w : World} (hr : (Region.ready md ops listed).isEmpty = true) (h : Q .normal a w) : wpG P md ops Q bad F fuel listed a w := by
  have hr' := List.isEmpty_iff.1 hr
  cases fuel with
  | zero => exact ⟨hr', h⟩
  | succ _ => exact ⟨fun _ => h, by rw [hr']; simp⟩
/-- the beginning -/
theorem wp_region_G (bad : List Nat) (F : World → Prop) {id : Nat} {a : Act} {w : World} (hm : P.follows .mixedOrders = true) (hS : F w.drew)
    (h : F w.drew → wpG P .any ops Q bad F ops.size (Array.replicate ops.size false) a w.drew) : (Code.region id ops true).wp P Q a w :=
  wp_region_any hm (wpAny_of_G _ _ _ _ (h hS))
end
end Go.Proofs.Ytmlnecopbncdbaa
