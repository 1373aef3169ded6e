/- Slices that a call builds by append: what they own, and how that stays through other steps. No function of the program is named here. -/
import Derived.Test.YtedjahinlpehgaaKind
import Derived.Test.YtedjahinlpehgaaSched
namespace Go.Proofs.Ytedjahinlpehgaa
set_option linter.unusedVariables false
open Go.ChangeShapes Go.WideShapes Go.ChangeAt Go.RowKit

/-- a slice under way: its blocks are fp, all its own, none ahead of base -/
def Bd {α : Type} (e : TypeId) (K : Kind α) (base : Nat) (fp : List Nat) (w : World) (v : Value) (xs : List α) : Prop :=
  ∃ vss fps, w.ownsRow base e K.n v xs.length vss.flatten ∧ OwL K w fps vss xs ∧ fp = v.ownBlock.toList ++ fps.flatten ∧ fp.Nodup ∧ ∀ b ∈ fp, base ≤ b
theorem news_at {w : World} {b : Nat} {x : Value} (h : w.cell? ⟨b, 0, none⟩ = some x) : ∀ (j : Nat) (u : Value), [x][j]? = some u → w.cell? ((⟨b, 0, none⟩ : Addr).add j) = some u := by
  intro j u hj
  cases j with
  | zero => simp at hj; subst hj; exact h
  | succ j => simp at hj
section
variable {α : Type} {e : TypeId} {K : Kind α} {base : Nat} {fp : List Nat} {w w' : World} {v : Value} {xs : List α}
theorem Bd.nil (w : World) : Bd e K base [] w (.slice none 0 0) [] := ⟨[], [], World.ownsRow_nil _ _ _ _, trivial, rfl, List.nodup_nil, by simp⟩
theorem Bd.fresh (h : w.ownsRow base e K.n v 0 []) : Bd e K base v.ownBlock.toList w v [] :=
  ⟨[], [], h, trivial, by simp, by cases v.ownBlock <;> simp, fun b hb => (h.lt b (by simpa using hb)).1⟩
theorem own_frame {n : Nat} {size : Nat} {row : List Value} (h : w.ownsRow base e size v n row) (hb : ∀ b ∈ v.ownBlock.toList, w'.heap[b]? = w.heap[b]?) : w'.ownsRow base e size v n row := by
  refine ⟨h.1, ?_⟩
  rcases h.2 with h0 | ⟨g, cap', cur, rfl, hb', hg, r⟩
  · exact .inl h0
  · exact .inr ⟨g, cap', cur, rfl, hb', by rw [hb g (by simp [Value.ownBlock])]; exact hg, r⟩
theorem Bd.frame (hK : K.Ok) (h : Bd e K base fp w v xs) (hb : ∀ b ∈ fp, w'.heap[b]? = w.heap[b]?) : Bd e K base fp w' v xs := by
  obtain ⟨vss, fps, h1, h2, rfl, h4, h5⟩ := h
  exact ⟨vss, fps, own_frame h1 fun b hm => hb b (by simp only [List.mem_append]; exact .inl hm), h2.frame hK fun b hm => hb b (by simp only [List.mem_append]; exact .inr hm), rfl, h4, h5⟩
theorem Bd.lt (hK : K.Ok) (h : Bd e K base fp w v xs) : ∀ b ∈ fp, b < w.heap.size := by
  obtain ⟨vss, fps, h1, h2, rfl, h4, h5⟩ := h
  intro b hb
  rcases List.mem_append.1 hb with hb | hb
  · exact (h1.lt b (by simpa using hb)).2
  · exact h2.lt hK b hb
theorem Bd.ge (h : Bd e K base fp w v xs) : ∀ b ∈ fp, base ≤ b := by obtain ⟨_, _, _, _, _, _, h5⟩ := h; exact h5
theorem Bd.nodup (h : Bd e K base fp w v xs) : fp.Nodup := by obtain ⟨_, _, _, _, _, h4, _⟩ := h; exact h4
theorem Bd.later (hK : K.Ok) (h : Bd e K base fp w v xs) (hb : Below w.heap.size w w') : Bd e K base fp w' v xs := h.frame hK fun b hm => hb.block b (h.lt hK b hm)
theorem Bd.alloc (hK : K.Ok) (h : Bd e K base fp w v xs) (o : Obj) : Bd e K base fp (w.alloc o) v xs := h.later hK ((Below.refl _ _).alloc (Nat.le_refl _) o)
theorem Bd.drew (h : Bd e K base fp w v xs) (hK : K.Ok) : Bd e K base fp w.drew v xs := h.later hK ((Below.refl _ _).drew)
theorem Bd.setCell (hK : K.Ok) (h : Bd e K base fp w v xs) {a : Addr} (ha : a.block < base) (u : Value) : Bd e K base fp (w.setCell a u) v xs := by
  have hh := h.ge
  exact h.frame hK fun b hm => Below.heap_setCell _ _ _ _ (by have := hh b hm; omega)
theorem Bd.own_ge (h : Bd e K base fp w v xs) : ∀ k, v.ownBlock = some k → base ≤ k := by
  obtain ⟨vss, fps, h1, _⟩ := h; exact fun k hk => (h1.lt k hk).1
theorem Bd.own_mem (h : Bd e K base fp w v xs) : ∀ k, v.ownBlock = some k → k ∈ fp := by
  obtain ⟨vss, fps, h1, h2, rfl, _⟩ := h; intro k hk; rw [hk]; simp
theorem Bd.grown (hK : K.Ok) (h : Bd e K base fp w v xs) {row : Option Nat} (hg : w.grownBy w' row) (hr : ∀ k, row = some k → k ∉ fp) : Bd e K base fp w' v xs :=
  h.frame hK fun b hm => hg.block b (h.lt hK b hm) fun he => hr b he.symm hm
theorem Bd.cell_grown (h : Bd e K base fp w v xs) (hg : w.grownBy w' v.ownBlock) {b i : Nat} {u : Value} (hc : w.cell? ⟨b, i, none⟩ = some u) (hb : b < base) : w'.cell? ⟨b, i, none⟩ = some u :=
  (hg.cell_far ⟨b, i, none⟩ (World.block_lt_of_cell? w _ hc) (fun he => by have := h.own_ge b he.symm; omega)).trans hc
theorem Bd.frozen_grown (h : Bd e K base fp w v xs) (hg : w.grownBy w' v.ownBlock) {b i : Nat} {z : Bool} (hl : b < w.heap.size) (hc : w.frozen? ⟨b, i, none⟩ = z) (hb : b < base) : w'.frozen? ⟨b, i, none⟩ = z :=
  (hg.frozen_far ⟨b, i, none⟩ hl (fun he => by have := h.own_ge b he.symm; omega)).trans hc
theorem Bd.below_grown (h : Bd e K base fp w v xs) (hg : w.grownBy w' v.ownBlock) {w0 : World} (hb : Below base w0 w) (hs : base ≤ w.heap.size) : Below base w0 w' := Below.grown hb hg hs h.own_ge
theorem Bd.ow (h : Bd e K base fp w v xs) : (kSl e K).ow fp w [v] xs := by
  obtain ⟨vss, fps, h1, h2, rfl, h4, h5⟩ := h
  exact ⟨v, vss, fps, rfl, own_mono h1 (Nat.zero_le _), h2, rfl, h4⟩
theorem Bd.form (h : Bd e K base fp w v xs) : ∃ a cap, v = .slice a xs.length cap := by
  obtain ⟨vss, fps, h1, _⟩ := h; exact form_of_own h1
theorem Bd.rd (hK : K.Ok) (hs : K.s ≤ 8) {B : Nat} (h : Bd e K base fp w v xs) (hB : ∀ b ∈ fp, b < B) : (kSl e K).rd B w [v] xs := (kSl_ok e hK hs).ord h.ow hB
theorem Bd.mono {base' : Nat} (h : Bd e K base fp w v xs) (hb : base' ≤ base) : Bd e K base' fp w v xs := by
  obtain ⟨vss, fps, h1, h2, h3, h4, h5⟩ := h
  exact ⟨vss, fps, own_mono h1 hb, h2, h3, h4, fun b hm => Nat.le_trans hb (h5 b hm)⟩

/-- one more element, by append -/
theorem Bd.app {fps : List (List Nat)} {vss : List (List Value)} {n : Nat} (hn : xs.length = n) (hK : K.Ok) (hrow : w.ownsRow base e K.n v n vss.flatten) (hl : OwL K w fps vss xs) (hnd : (v.ownBlock.toList ++ fps.flatten).Nodup) (hge : ∀ b ∈ v.ownBlock.toList ++ fps.flatten, base ≤ b)
    {fq : List Nat} {c : List Value} {x : α} (hx : K.ow fq w c x) (hqn : fq.Nodup) (hqd : ∀ b ∈ fq, b ∉ v.ownBlock.toList ++ fps.flatten) (hqg : ∀ b ∈ fq, base ≤ b)
    {g cap : Nat} (hown : w'.ownsRow base e K.n (.slice (some ⟨g, 0, none⟩) (n + 1) cap) (n + 1) (vss.flatten ++ c)) (hgrow : w.grownBy w' v.ownBlock) (hat : v.ownBlock = some g ∨ g = w.heap.size) (hbs : base ≤ w.heap.size) :
    Bd e K base (g :: (fps.flatten ++ fq)) w' (.slice (some ⟨g, 0, none⟩) (n + 1) cap) (xs ++ [x]) := by
  subst hn
  have hlt := hl.lt hK
  have hqlt := hK.olt hx
  have hgn : g ∉ fps.flatten ++ fq := by
    intro hm
    rcases hat with hat | hat
    · rw [hat] at hnd hqd
      simp only [Option.toList_some, List.singleton_append, List.nodup_cons] at hnd
      rcases List.mem_append.1 hm with hm | hm
      · exact hnd.1 hm
      · exact hqd g hm (by simp)
    · rcases List.mem_append.1 hm with hm | hm
      · have := hlt g hm; omega
      · have := hqlt g hm; omega
  have hfr : ∀ b ∈ fps.flatten ++ fq, w'.heap[b]? = w.heap[b]? := by
    intro b hm
    refine hgrow.block b ?_ ?_
    · rcases List.mem_append.1 hm with hm | hm
      · exact hlt b hm
      · exact hqlt b hm
    · intro he
      rcases List.mem_append.1 hm with hm | hm
      · rw [← he] at hnd
        simp only [Option.toList_some, List.singleton_append, List.nodup_cons] at hnd
        exact hnd.1 hm
      · exact hqd b hm (by rw [← he]; simp)
  refine ⟨vss ++ [c], fps ++ [fq], ?_, (hl.frame hK fun b hm => hfr b (by simp only [List.mem_append]; exact .inl hm)).snoc (hK.oframe hx fun b hm => hfr b (by simp only [List.mem_append]; exact .inr hm)), ?_, ?_, ?_⟩
  · rw [List.length_append, List.length_singleton, List.flatten_append, List.flatten_singleton]; exact hown
  · simp [Value.ownBlock]
  · rw [List.nodup_cons]
    refine ⟨hgn, List.nodup_append.2 ⟨(List.nodup_append.1 hnd).2.1, hqn, fun a ha b hb he => ?_⟩⟩
    subst he
    exact hqd a hb (by simp only [List.mem_append]; exact .inr ha)
  · intro b hm
    rcases List.mem_cons.1 hm with rfl | hm
    · rcases hat with hat | hat
      · exact hge b (by rw [hat]; simp)
      · omega
    · rcases List.mem_append.1 hm with hm | hm
      · exact hge b (by simp only [List.mem_append]; exact .inr hm)
      · exact hqg b hm
theorem OwL.scalars {L : Kind α} (V : α → List Value) (h : ∀ x : α, x ∈ xs → L.ow [] w (V x) x) : OwL L w (xs.map fun _ => []) (xs.map V) xs := by
  induction xs with
  | nil => exact trivial
  | cons x r ih => exact ⟨h x (by simp), ih fun y hy => h y (by simp [hy])⟩
theorem nils_flatten (xs : List α) : (xs.map fun _ => ([] : List Nat)).flatten = [] := by induction xs with
  | nil => rfl
  | cons x r ih => simp [ih]
theorem OwL.app : ∀ {fs : List (List Nat)} {vs : List (List Value)} {xs : List α} {gs : List (List Nat)} {us : List (List Value)} {ys : List α}, OwL K w fs vs xs → OwL K w gs us ys → OwL K w (fs ++ gs) (vs ++ us) (xs ++ ys)
  | [], [], [], _, _, _, _, h => h
  | _ :: _, _ :: _, _ :: _, _, _, _, h, h' => ⟨h.1, h.2.app h'⟩
/-- more elements that own nothing, by append -/
theorem Bd.apps {fps : List (List Nat)} {vss : List (List Value)} {n m : Nat} (hn : xs.length = n) (hK : K.Ok) (hrow : w.ownsRow base e K.n v n vss.flatten) (hl : OwL K w fps vss xs) (hnd : (v.ownBlock.toList ++ fps.flatten).Nodup) (hge : ∀ b ∈ v.ownBlock.toList ++ fps.flatten, base ≤ b)
    {V : α → List Value} {ys : List α} (hx : ys.length = m ∧ ∀ x ∈ ys, ∀ w : World, K.ow [] w (V x) x)
    {g cap : Nat} (hown : w'.ownsRow base e K.n (.slice (some ⟨g, 0, none⟩) (n + m) cap) (n + m) (vss.flatten ++ (ys.map V).flatten)) (hgrow : w.grownBy w' v.ownBlock) (hat : v.ownBlock = some g ∨ g = w.heap.size) (hbs : base ≤ w.heap.size) :
    Bd e K base (g :: (fps.flatten ++ [])) w' (.slice (some ⟨g, 0, none⟩) (n + m) cap) (xs ++ ys) := by
  subst hn
  obtain ⟨rfl, hx⟩ := hx
  have hlt := hl.lt hK
  have hgn : g ∉ fps.flatten := by
    intro hm
    rcases hat with hat | hat
    · rw [hat] at hnd
      simp only [Option.toList_some, List.singleton_append, List.nodup_cons] at hnd
      exact hnd.1 hm
    · have := hlt g hm; omega
  have hfr : ∀ b ∈ fps.flatten, w'.heap[b]? = w.heap[b]? := by
    intro b hm
    refine hgrow.block b (hlt b hm) ?_
    intro he
    rw [← he] at hnd
    simp only [Option.toList_some, List.singleton_append, List.nodup_cons] at hnd
    exact hnd.1 hm
  refine ⟨vss ++ ys.map V, fps ++ ys.map (fun _ => []), ?_, (hl.frame hK hfr).app (OwL.scalars V fun x hm => hx x hm w'), ?_, ?_, ?_⟩
  · rw [List.length_append, List.flatten_append]; exact hown
  · rw [List.flatten_append, nils_flatten]; simp [Value.ownBlock]
  · rw [List.append_nil, List.nodup_cons]
    exact ⟨hgn, (List.nodup_append.1 hnd).2.1⟩
  · intro b hm
    rw [List.append_nil] at hm
    rcases List.mem_cons.1 hm with rfl | hm
    · rcases hat with hat | hat
      · exact hge b (by rw [hat]; simp)
      · omega
    · exact hge b (by simp only [List.mem_append]; exact .inr hm)
/-- where the blocks of the row that grew lie -/
theorem app_in {fps : List (List Nat)} {fq : List Nat} {g b : Nat} (hat : v.ownBlock = some g ∨ g = w.heap.size) (hm : b ∈ g :: (fps.flatten ++ fq)) : b ∈ v.ownBlock.toList ++ fps.flatten ∨ b ∈ fq ∨ b = w.heap.size := by
  rcases List.mem_cons.1 hm with rfl | hm
  · rcases hat with hat | hat
    · left; rw [hat]; simp
    · exact .inr (.inr hat)
  · rcases List.mem_append.1 hm with hm | hm
    · left; simp only [List.mem_append]; exact .inr hm
    · exact .inr (.inl hm)
end
end Go.Proofs.Ytedjahinlpehgaa
