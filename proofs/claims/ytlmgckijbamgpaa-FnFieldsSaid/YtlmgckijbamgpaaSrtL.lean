/- Fields put in order by their number, those of one number as they were: the plain law. No program in sight. -/
import Derived.Test.YtlmgckijbamgpaaFrK
namespace Go.Proofs.Ytlmgckijbamgpaa
set_option linter.unusedVariables false
set_option linter.unusedSimpArgs false
set_option maxRecDepth 100000

def fil (v : Int) (l : List Fld) : List Fld := l.filter fun f => decide (f.no = v)
theorem fil_app (v : Int) (a b : List Fld) : fil v (a ++ b) = fil v a ++ fil v b := List.filter_append ..
theorem fil_cons (v : Int) (x : Fld) (l : List Fld) : fil v (x :: l) = if x.no = v then x :: fil v l else fil v l := by
  unfold fil; rw [List.filter_cons]; by_cases h : x.no = v <;> simp [h]
theorem fil_mem {v : Int} {x : Fld} {l : List Fld} : x ∈ fil v l ↔ x ∈ l ∧ x.no = v := by unfold fil; simp
def Srt (l : List Fld) : Prop := l.Pairwise fun x y => x.no ≤ y.no
theorem srt_uniq : ∀ (A B : List Fld), Srt A → Srt B → (∀ v, fil v A = fil v B) → A = B
  | [], [], _, _, _ => rfl
  | [], b :: bs, _, _, h => by
    have := h b.no
    rw [fil_cons, if_pos rfl] at this
    simp [fil] at this
  | a :: ar, [], _, _, h => by
    have := h a.no
    rw [fil_cons, if_pos rfl] at this
    simp [fil] at this
  | a :: ar, b :: bs, hA, hB, h => by
    have hA' := List.pairwise_cons.1 hA
    have hB' := List.pairwise_cons.1 hB
    have h1 : b.no ≤ a.no := by
      have m : a ∈ fil a.no (b :: bs) := by rw [← h]; exact fil_mem.2 ⟨by simp, rfl⟩
      rcases List.mem_cons.1 (fil_mem.1 m).1 with e | e
      · rw [e]; exact Int.le_refl _
      · exact hB'.1 a e
    have h2 : a.no ≤ b.no := by
      have m : b ∈ fil b.no (a :: ar) := by rw [h]; exact fil_mem.2 ⟨by simp, rfl⟩
      rcases List.mem_cons.1 (fil_mem.1 m).1 with e | e
      · rw [e]; exact Int.le_refl _
      · exact hA'.1 b e
    have h3 : a.no = b.no := by omega
    have h4 := h a.no
    rw [fil_cons, fil_cons, if_pos rfl, if_pos h3.symm] at h4
    simp only [List.cons.injEq] at h4
    obtain ⟨rfl, h5⟩ := h4
    rw [srt_uniq ar bs hA'.2 hB'.2 (fun v => by
      by_cases hv : a.no = v
      · subst hv; exact h5
      · have := h v
        rw [fil_cons, fil_cons, if_neg hv, if_neg hv] at this
        exact this)]
def insF (out : List Fld) (f : Fld) : List Fld := out.takeWhile (fun x => decide (x.no ≤ f.no)) ++ f :: out.dropWhile (fun x => decide (x.no ≤ f.no))
theorem dw_gt : ∀ (out : List Fld) (f : Fld), Srt out → ∀ y ∈ out.dropWhile (fun x => decide (x.no ≤ f.no)), f.no < y.no
  | [], f, _, y, hy => by simp at hy
  | x :: r, f, hs, y, hy => by
    have hs' := List.pairwise_cons.1 hs
    rw [List.dropWhile_cons] at hy
    split at hy
    · exact dw_gt r f hs'.2 y hy
    · rename_i hx
      simp only [decide_eq_true_eq] at hx
      rcases List.mem_cons.1 hy with rfl | hy
      · omega
      · have := hs'.1 y hy; omega
theorem tw_le : ∀ (out : List Fld) (f x : Fld), x ∈ out.takeWhile (fun x => decide (x.no ≤ f.no)) → x.no ≤ f.no
  | [], f, x, h => by simp at h
  | y :: r, f, x, h => by
    rw [List.takeWhile_cons] at h
    split at h
    · rename_i hy
      rcases List.mem_cons.1 h with rfl | h
      · simpa using hy
      · exact tw_le r f x h
    · simp at h
theorem ins_srt {out : List Fld} {f : Fld} (hs : Srt out) : Srt (insF out f) := by
  have hd := dw_gt out f hs
  have h0 := hs
  unfold Srt at h0
  rw [← List.takeWhile_append_dropWhile (p := fun x => decide (x.no ≤ f.no)) (l := out), List.pairwise_append] at h0
  unfold insF Srt
  rw [List.pairwise_append]
  refine ⟨h0.1, List.pairwise_cons.2 ⟨fun y hy => by have := hd y hy; omega, h0.2.1⟩, fun x hx y hy => ?_⟩
  have hxf : x.no ≤ f.no := tw_le out f x hx
  rcases List.mem_cons.1 hy with rfl | hy
  · exact hxf
  · exact h0.2.2 x hx y hy
theorem ins_fil {out : List Fld} {f : Fld} (hs : Srt out) (v : Int) : fil v (insF out f) = fil v out ++ fil v [f] := by
  have hd := dw_gt out f hs
  have e : fil v out = fil v (out.takeWhile (fun x => decide (x.no ≤ f.no))) ++ fil v (out.dropWhile (fun x => decide (x.no ≤ f.no))) := by rw [← fil_app, List.takeWhile_append_dropWhile]
  unfold insF
  rw [fil_app, fil_cons, e]
  by_cases hv : f.no = v
  · rw [if_pos hv]
    have : fil v (out.dropWhile (fun x => decide (x.no ≤ f.no))) = [] := by
      rw [List.eq_nil_iff_forall_not_mem]
      intro y hy
      obtain ⟨h1, h2⟩ := fil_mem.1 hy
      have := hd y h1
      omega
    rw [this, fil_cons, if_pos hv, List.append_nil]; rfl
  · rw [if_neg hv, fil_cons, if_neg hv]; simp [fil]
def srtF (l : List Fld) : List Fld := l.foldl insF []
theorem fold_srt : ∀ (l acc : List Fld), Srt acc → Srt (l.foldl insF acc) ∧ ∀ v, fil v (l.foldl insF acc) = fil v acc ++ fil v l
  | [], acc, h => ⟨h, fun v => by simp [fil]⟩
  | x :: r, acc, h => by
    obtain ⟨h1, h2⟩ := fold_srt r (insF acc x) (ins_srt h)
    refine ⟨h1, fun v => ?_⟩
    rw [List.foldl_cons, h2, ins_fil h, List.append_assoc, ← fil_app]; rfl
theorem srtF_srt (l : List Fld) : Srt (srtF l) := (fold_srt l [] List.Pairwise.nil).1
theorem srtF_fil (l : List Fld) (v : Int) : fil v (srtF l) = fil v l := by rw [srtF, (fold_srt l [] List.Pairwise.nil).2]; rfl
theorem srt_is {l A : List Fld} (h : Srt A) (hf : ∀ v, fil v A = fil v l) : A = srtF l := srt_uniq A (srtF l) h (srtF_srt l) fun v => by rw [hf, srtF_fil]
theorem fil_len (l : List Fld) : ∀ A : List Fld, (∀ v, fil v A = fil v l) → (∀ x, x ∈ A ↔ x ∈ l) := by
  intro A h x
  constructor
  · intro hx
    have : x ∈ fil x.no A := fil_mem.2 ⟨hx, rfl⟩
    rw [h] at this
    exact (fil_mem.1 this).1
  · intro hx
    have : x ∈ fil x.no l := fil_mem.2 ⟨hx, rfl⟩
    rw [← h] at this
    exact (fil_mem.1 this).1
theorem ins_len (out : List Fld) (f : Fld) : (insF out f).length = out.length + 1 := by
  unfold insF
  have := congrArg List.length (List.takeWhile_append_dropWhile (p := fun x => decide (x.no ≤ f.no)) (l := out))
  rw [List.length_append] at this ⊢
  rw [List.length_cons]; omega
theorem fold_ilen : ∀ (l acc : List Fld), (l.foldl insF acc).length = acc.length + l.length
  | [], acc => by simp
  | x :: r, acc => by rw [List.foldl_cons, fold_ilen r, ins_len, List.length_cons]; omega
theorem srtF_len (l : List Fld) : (srtF l).length = l.length := by rw [srtF, fold_ilen]; simp
/-- the bytes of all are as many -/
theorem ins_bytes (out : List Fld) (f : Fld) : (fieldsB (insF out f)).length = (fieldsB out).length + (fieldB f).length := by
  unfold insF
  have e := congrArg (fun l => (fieldsB l).length) (List.takeWhile_append_dropWhile (p := fun x => decide (x.no ≤ f.no)) (l := out))
  simp only [fieldsB_append, List.length_append] at e
  rw [fieldsB_append, fieldsB_cons, List.length_append, List.length_append]; omega
theorem fold_bytes : ∀ (l acc : List Fld), (fieldsB (l.foldl insF acc)).length = (fieldsB acc).length + (fieldsB l).length
  | [], acc => by simp [fieldsB]
  | x :: r, acc => by rw [List.foldl_cons, fold_bytes r, ins_bytes, fieldsB_cons, List.length_append]; omega
theorem srtF_bytes (l : List Fld) : (fieldsB (srtF l)).length = (fieldsB l).length := by rw [srtF, fold_bytes]; simp [fieldsB]
theorem srtF_good {l : List Fld} (h : goodFs l = true) : goodFs (srtF l) = true := by
  unfold goodFs at h ⊢
  simp only [Bool.and_eq_true, decide_eq_true_eq, List.all_eq_true] at h ⊢
  exact ⟨by rw [srtF_len]; exact h.1, fun x hx => h.2 x ((fil_len l _ (srtF_fil l) x).1 hx)⟩

/-! ### what the steps of a sort do to a row -/
def St (L L' : List Fld) (a b : Nat) : Prop := L'.length = L.length ∧ L'.take a = L.take a ∧ L'.drop b = L.drop b ∧ ∀ v, fil v L' = fil v L
theorem St.refl (L : List Fld) (a b : Nat) : St L L a b := ⟨rfl, rfl, rfl, fun _ => rfl⟩
theorem St.trans {L M N : List Fld} {a b : Nat} (h : St L M a b) (k : St M N a b) : St L N a b := ⟨k.1.trans h.1, k.2.1.trans h.2.1, k.2.2.1.trans h.2.2.1, fun v => (k.2.2.2 v).trans (h.2.2.2 v)⟩
theorem St.wide {L M : List Fld} {a b a' b' : Nat} (h : St L M a b) (ha : a' ≤ a) (hb : b ≤ b') : St L M a' b' := by
  refine ⟨h.1, ?_, ?_, h.2.2.2⟩
  · have := congrArg (List.take a') h.2.1
    rwa [List.take_take, List.take_take, Nat.min_eq_left ha] at this
  · have := congrArg (List.drop (b' - b)) h.2.2.1
    rwa [List.drop_drop, List.drop_drop, show b + (b' - b) = b' by omega] at this
theorem St.out {L M : List Fld} {a b i : Nat} (h : St L M a b) (hi : i < a ∨ b ≤ i) : M[i]? = L[i]? := by
  rcases hi with hi | hi
  · have := congrArg (fun l => l[i]?) h.2.1
    simpa [List.getElem?_take, hi] using this
  · have := congrArg (fun l => l[i - b]?) h.2.2.1
    simp only [List.getElem?_drop] at this
    rwa [show b + (i - b) = i by omega] at this
def seg (L : List Fld) (a b : Nat) : List Fld := (L.take b).drop a
theorem seg_split (L : List Fld) {a b : Nat} (h : a ≤ b) : L = L.take a ++ (seg L a b ++ L.drop b) := by
  unfold seg
  have e : L.take a = (L.take b).take a := by rw [List.take_take, Nat.min_eq_left h]
  rw [e, ← List.append_assoc, List.take_append_drop, List.take_append_drop]
theorem St.sg {L M : List Fld} {a b : Nat} (h : St L M a b) (hab : a ≤ b) (v : Int) : fil v (seg M a b) = fil v (seg L a b) := by
  have e := h.2.2.2 v
  rw [seg_split M hab, seg_split L hab, fil_app, fil_app, fil_app, fil_app, h.2.1, h.2.2.1] at e
  have := List.append_cancel_left e
  exact List.append_cancel_right this
theorem seg_at {L : List Fld} {a b i : Nat} (h1 : a ≤ i) (h2 : i < b) : (seg L a b)[i - a]? = L[i]? := by
  unfold seg
  rw [List.getElem?_drop, show a + (i - a) = i by omega, List.getElem?_take, if_pos h2]
theorem seg_mem {L : List Fld} {a b : Nat} {x : Fld} (h : x ∈ seg L a b) : ∃ i, a ≤ i ∧ i < b ∧ L[i]? = some x := by
  obtain ⟨j, hj, rfl⟩ := List.getElem_of_mem h
  have hlen : (seg L a b).length ≤ b - a := by unfold seg; rw [List.length_drop, List.length_take]; omega
  refine ⟨a + j, by omega, by omega, ?_⟩
  rw [← seg_at (a := a) (b := b) (by omega) (by omega), show a + j - a = j by omega]
  exact List.getElem?_eq_getElem hj
/-- each of the segment was in the segment -/
theorem St.mem {L M : List Fld} {a b i : Nat} {x : Fld} (h : St L M a b) (h1 : a ≤ i) (h2 : i < b) (hx : M[i]? = some x) : ∃ j, a ≤ j ∧ j < b ∧ L[j]? = some x := by
  have hm : x ∈ seg M a b := List.mem_of_getElem? ((seg_at h1 h2).trans hx)
  have : x ∈ fil x.no (seg M a b) := fil_mem.2 ⟨hm, rfl⟩
  rw [h.sg (by omega)] at this
  exact seg_mem (fil_mem.1 this).1
def kf (L : List Fld) (i : Nat) : Int := (L.getD i ⟨0, 0, 0, ⟨#[]⟩⟩).no
theorem kf_of {L : List Fld} {i : Nat} {x : Fld} (h : L[i]? = some x) : kf L i = x.no := by unfold kf; simp [List.getD, h]
/-- in order from a up to b -/
def So (L : List Fld) (a b : Nat) : Prop := ∀ i j, a ≤ i → i < j → j < b → kf L i ≤ kf L j
theorem so_srt {L : List Fld} (h : So L 0 L.length) : Srt L := by
  unfold Srt
  rw [List.pairwise_iff_getElem]
  intro i j hi hj hij
  have := h i j (by omega) hij hj
  rwa [kf_of (List.getElem?_eq_getElem hi), kf_of (List.getElem?_eq_getElem hj)] at this
theorem St.keep_so {L M : List Fld} {a b c d : Nat} (h : St L M a b) (hs : So L c d) (hcd : d ≤ a ∨ b ≤ c) : So M c d := by
  intro i j h1 h2 h3
  have e : ∀ t, c ≤ t → t < d → kf M t = kf L t := fun t ht1 ht2 => by unfold kf; rw [List.getD, List.getD, h.out (by omega)]
  rw [e i h1 (by omega), e j (by omega) h3]
  exact hs i j h1 h2 h3
/-- two neighbours of different numbers change their places -/
theorem swap_st {L : List Fld} {i j : Nat} {x y : Fld} (hx : L[i]? = some x) (hy : L[j]? = some y) (hij : i + 1 = j) (hne : x.no ≠ y.no) : St L ((L.set i y).set j x) i (j + 1) := by
  subst hij
  obtain ⟨h1, e1⟩ := List.getElem?_eq_some_iff.1 hx
  obtain ⟨h2, e2⟩ := List.getElem?_eq_some_iff.1 hy
  have eL : L = L.take i ++ x :: y :: L.drop (i + 2) := by
    have := List.take_append_drop i L
    rw [List.drop_eq_getElem_cons h1, List.drop_eq_getElem_cons h2, e1, e2] at this
    exact this.symm
  have eM : (L.set i y).set (i + 1) x = L.take i ++ y :: x :: L.drop (i + 2) := by
    have hl : (L.take i).length = i := by rw [List.length_take]; omega
    conv => lhs; rw [eL]
    rw [List.set_append_right _ _ (by omega), hl, Nat.sub_self, List.set_cons_zero, List.set_append_right _ _ (by omega), hl, show i + 1 - i = 1 by omega]
    rfl
  refine ⟨by simp, ?_, ?_, fun v => ?_⟩
  · rw [eM, List.take_append_of_le_length (by rw [List.length_take]; omega)]
    rw [List.take_take, Nat.min_self]
  · rw [List.drop_set_of_lt (by omega), List.drop_set_of_lt (by omega)]
  · rw [eM]
    conv => rhs; rw [eL]
    rw [fil_app, fil_app, fil_cons, fil_cons, fil_cons, fil_cons]
    by_cases a1 : x.no = v <;> by_cases a2 : y.no = v <;> simp [a1, a2]
    exact absurd (a1.trans a2.symm) hne
end Go.Proofs.Ytlmgckijbamgpaa
