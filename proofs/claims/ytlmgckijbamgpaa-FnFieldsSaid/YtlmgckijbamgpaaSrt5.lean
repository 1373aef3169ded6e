/- The merge of two runs of fields: plain laws. -/
import Derived.Test.YtlmgckijbamgpaaSrt4
namespace Go.Proofs.Ytlmgckijbamgpaa
set_option linter.unusedVariables false
set_option linter.unusedSimpArgs false
set_option maxRecDepth 100000

theorem seg_get (L : List Fld) (a b j : Nat) : (seg L a b)[j]? = if a + j < b then L[a + j]? else none := by
  unfold seg; rw [List.getElem?_drop, List.getElem?_take]
theorem seg_len {L : List Fld} {a b : Nat} (h : b ≤ L.length) : (seg L a b).length = b - a := by unfold seg; rw [List.length_drop, List.length_take]; omega
theorem drop_seg {L : List Fld} {m e : Nat} (h1 : m ≤ e) (h2 : e ≤ L.length) : L.drop m = seg L m e ++ L.drop e := by
  apply List.ext_getElem?
  intro t
  rw [List.getElem?_append, seg_len h2, seg_get, List.getElem?_drop, List.getElem?_drop]
  repeat' split
  all_goals first | rfl | (exfalso; omega) | (congr 1; omega)
theorem rt_list {L N : List Fld} {s m e : Nat} (h : RtS L N s m e) (h1 : s ≤ m) (h2 : m ≤ e) (h3 : e ≤ L.length) : N = L.take s ++ (seg L m e ++ (seg L s m ++ L.drop e)) := by
  apply List.ext_getElem?
  intro t
  rw [h.2, List.getElem?_append, List.getElem?_append, List.getElem?_append, seg_len h3, seg_len (by omega), List.length_take, seg_get, seg_get, List.getElem?_take, List.getElem?_drop]
  repeat' split
  all_goals first | rfl | (exfalso; omega) | (congr 1; omega)
theorem rt_st {L N : List Fld} {s m e : Nat} (h : RtS L N s m e) (h1 : s ≤ m) (h2 : m ≤ e) (h3 : e ≤ L.length) (hlt : ∀ x y, m ≤ x → x < e → s ≤ y → y < m → kf L x < kf L y) : St L N s e := by
  have hN := rt_list h h1 h2 h3
  have hL : L = L.take s ++ (seg L s m ++ (seg L m e ++ L.drop e)) := by
    rw [← drop_seg h2 h3]; exact seg_split L h1
  have hls : (L.take s).length = s := by rw [List.length_take]; omega
  refine ⟨h.1, ?_, ?_, fun v => ?_⟩
  · rw [hN, List.take_append_of_le_length (by omega), List.take_take, Nat.min_self]
  · apply List.ext_getElem?
    intro t
    rw [List.getElem?_drop, List.getElem?_drop, h.2, if_neg (by omega), if_neg (by omega)]
  · have key : fil v (seg L m e) = [] ∨ fil v (seg L s m) = [] := by
      rcases Classical.em (fil v (seg L m e) = []) with c1 | c1
      · exact .inl c1
      · right
        rw [List.eq_nil_iff_forall_not_mem]
        intro y hy
        obtain ⟨x, hx⟩ := List.exists_mem_of_ne_nil _ c1
        obtain ⟨x1, x2⟩ := fil_mem.1 hx
        obtain ⟨y1, y2⟩ := fil_mem.1 hy
        obtain ⟨i, i1, i2, i3⟩ := seg_mem x1
        obtain ⟨j, j1, j2, j3⟩ := seg_mem y1
        have := hlt i j i1 i2 j1 j2
        rw [kf_of i3, kf_of j3] at this
        omega
    conv => rhs; rw [hL]
    rw [hN, fil_app, fil_app, fil_app, fil_app, fil_app, fil_app]
    rcases key with k | k <;> rw [k] <;> simp
theorem kf_rt {L N : List Fld} {s m e : Nat} (h : RtS L N s m e) (t : Nat) : kf N t = if s ≤ t ∧ t < s + (e - m) then kf L (t - s + m) else if s + (e - m) ≤ t ∧ t < e then kf L (t - (e - m)) else kf L t := by
  unfold kf
  rw [List.getD, h.2]
  repeat' split
  all_goals rfl
/-- what stands where the search for the cut has ended -/
structure CutS (L : List Fld) (a m b mid st e : Nat) : Prop where
  ord : a ≤ st ∧ st ≤ m ∧ m ≤ e ∧ e ≤ b ∧ st + (e - m) = mid
  low : ∀ x y, m ≤ x → x < e → st ≤ y → y < m → kf L x < kf L y
  hig : ∀ x y, a ≤ x → x < st → e ≤ y → y < b → kf L x ≤ kf L y
theorem cut_rt {L N : List Fld} {a m b mid st e : Nat} (h : CutS L a m b mid st e) (hr : RtS L N st m e) (hs1 : So L a m) (hs2 : So L m b) : So N a st ∧ So N st mid ∧ So N mid e ∧ So N e b ∧ (∀ x y, a ≤ x → x < mid → mid ≤ y → y < b → kf N x ≤ kf N y) := by
  obtain ⟨⟨o1, o2, o3, o4, o5⟩, hl, hh⟩ := h
  have e1 : ∀ t, t < st → kf N t = kf L t := fun t ht => by rw [kf_rt hr, if_neg (by omega), if_neg (by omega)]
  have e2 : ∀ t, st ≤ t → t < mid → kf N t = kf L (t - st + m) := fun t h1 h2 => by rw [kf_rt hr, if_pos (by omega)]
  have e3 : ∀ t, mid ≤ t → t < e → kf N t = kf L (t - (e - m)) := fun t h1 h2 => by rw [kf_rt hr, if_neg (by omega), if_pos (by omega)]
  have e4 : ∀ t, e ≤ t → kf N t = kf L t := fun t h1 => by rw [kf_rt hr, if_neg (by omega), if_neg (by omega)]
  refine ⟨fun x y h1 h2 h3 => ?_, fun x y h1 h2 h3 => ?_, fun x y h1 h2 h3 => ?_, fun x y h1 h2 h3 => ?_, fun x y h1 h2 h3 h4 => ?_⟩
  · rw [e1 x (by omega), e1 y h3]; exact hs1 x y h1 h2 (by omega)
  · rw [e2 x h1 (by omega), e2 y (by omega) h3]; exact hs2 _ _ (by omega) (by omega) (by omega)
  · rw [e3 x h1 (by omega), e3 y (by omega) h3]; exact hs1 _ _ (by omega) (by omega) (by omega)
  · rw [e4 x h1, e4 y (by omega)]; exact hs2 x y (by omega) h2 h3
  · by_cases hx : x < st
    · rw [e1 x hx]
      by_cases hy : y < e
      · rw [e3 y h3 hy]; exact hs1 _ _ h1 (by omega) (by omega)
      · rw [e4 y (by omega)]; exact hh x y h1 hx (by omega) h4
    · rw [e2 x (by omega) h2]
      by_cases hy : y < e
      · rw [e3 y h3 hy]; have := hl (x - st + m) (y - (e - m)) (by omega) (by omega) (by omega) (by omega); omega
      · rw [e4 y (by omega)]; exact hs2 _ _ (by omega) (by omega) h4
theorem so_join {N : List Fld} {a st mid : Nat} (h1 : So N a st) (h2 : So N st mid) (h : ¬ (a < st ∧ st < mid)) (ha : a ≤ st) (hm : st ≤ mid) : So N a mid := by
  intro x y x1 x2 x3
  by_cases hs : a < st
  · exact h1 x y x1 x2 (by omega)
  · exact h2 x y (by omega) x2 x3
theorem cut_end {N N1 N2 : List Fld} {a mid b : Nat} (ham : a ≤ mid) (hmb : mid ≤ b) (hc : ∀ x y, a ≤ x → x < mid → mid ≤ y → y < b → kf N x ≤ kf N y) (h1 : St N N1 a mid) (h2 : St N1 N2 mid b) (s1 : So N1 a mid) (s2 : So N2 mid b) (hb : b ≤ N.length) : So N2 a b := by
  have s1' := h2.keep_so s1 (.inl (Nat.le_refl _))
  intro x y x1 x2 x3
  by_cases hx : x < mid
  · by_cases hy : y < mid
    · exact s1' x y x1 x2 hy
    · have l2 : N2.length = N.length := h2.1.trans h1.1
      obtain ⟨fx, ex⟩ := getD_of (L := N2) (i := x) (by omega)
      obtain ⟨fy, ey⟩ := getD_of (L := N2) (i := y) (by omega)
      have ex1 : N1[x]? = some fx := (h2.out (.inl hx)).symm.trans ex
      obtain ⟨i, i1, i2, i3⟩ := h1.mem x1 hx ex1
      obtain ⟨j, j1, j2, j3⟩ := h2.mem (by omega) x3 ey
      have j4 : N[j]? = some fy := (h1.out (.inr (by omega))).symm.trans j3
      have := hc i j i1 i2 j1 j2
      rw [kf_of i3, kf_of j4] at this
      rw [kf_of ex, kf_of ey]; exact this
  · exact s2 x y (by omega) x2 x3
/-- the search for the cut under way -/
structure FindC (L : List Fld) (p s0 r0 st r : Nat) : Prop where
  ord : s0 ≤ st ∧ st ≤ r ∧ r ≤ r0
  lo : ∀ t, s0 ≤ t → t < st → kf L t ≤ kf L (p - t)
  hi : ∀ t, r ≤ t → t < r0 → kf L (p - t) < kf L t
theorem find_start {L : List Fld} {p s0 r0 : Nat} (h : s0 ≤ r0) : FindC L p s0 r0 s0 r0 := ⟨⟨Nat.le_refl _, h, Nat.le_refl _⟩, fun t _ _ => by omega, fun t _ _ => by omega⟩
theorem find_lo {L : List Fld} {p s0 r0 st r c a m b : Nat} (h : FindC L p s0 r0 st r) (h1 : st ≤ c) (h2 : c < r) (ha : a ≤ s0) (hm : r0 ≤ m) (hp : m + r0 ≤ p + 1) (hb : p < s0 + b) (hs1 : So L a m) (hs2 : So L m b) (hc : ¬ kf L (p - c) < kf L c) : FindC L p s0 r0 (c + 1) r := by
  obtain ⟨⟨o1, o2, o3⟩, hl, hh⟩ := h
  refine ⟨⟨by omega, by omega, o3⟩, fun t t1 t2 => ?_, hh⟩
  by_cases ht : t = c
  · rw [ht]; omega
  · have q1 := hs1 t c (by omega) (by omega) (by omega)
    have q2 := hs2 (p - c) (p - t) (by omega) (by omega) (by omega)
    omega
theorem find_hi {L : List Fld} {p s0 r0 st r c a m b : Nat} (h : FindC L p s0 r0 st r) (h1 : st ≤ c) (h2 : c < r) (ha : a ≤ s0) (hm : r0 ≤ m) (hp : m + r0 ≤ p + 1) (hb : p < s0 + b) (hs1 : So L a m) (hs2 : So L m b) (hc : kf L (p - c) < kf L c) : FindC L p s0 r0 st c := by
  obtain ⟨⟨o1, o2, o3⟩, hl, hh⟩ := h
  refine ⟨⟨o1, h1, by omega⟩, hl, fun t t1 t2 => ?_⟩
  by_cases ht : t = c
  · rw [ht]; exact hc
  · have q1 := hs1 c t (by omega) (by omega) (by omega)
    have q2 := hs2 (p - t) (p - c) (by omega) (by omega) (by omega)
    omega
theorem find_cut {L : List Fld} {p s0 r0 st a m b mid e : Nat} (h : FindC L p s0 r0 st st) (ham : a < m) (hmb : m < b) (hmid : mid = (a + b) / 2) (hp : p + 1 = mid + m) (he : e + st = mid + m) (hcase : (m ≤ mid ∧ s0 = a ∧ r0 = m) ∨ (mid < m ∧ s0 + b = mid + m ∧ r0 = mid)) (hs1 : So L a m) (hs2 : So L m b) : CutS L a m b mid st e := by
  obtain ⟨⟨o1, o2, o3⟩, hl, hh⟩ := h
  refine ⟨by omega, fun x y x1 x2 y1 y2 => ?_, fun x y x1 x2 y1 y2 => ?_⟩
  · have q := hh st (Nat.le_refl _) (by omega)
    have q1 : kf L x ≤ kf L (p - st) := by
      by_cases hx : x = p - st
      · rw [hx]; exact Int.le_refl _
      · exact hs2 x (p - st) x1 (by omega) (by omega)
    have q2 : kf L st ≤ kf L y := by
      by_cases hy : y = st
      · rw [hy]; exact Int.le_refl _
      · exact hs1 st y (by omega) (by omega) y2
    omega
  · have q := hl (st - 1) (by omega) (by omega)
    have q1 : kf L x ≤ kf L (st - 1) := by
      by_cases hx : x = st - 1
      · rw [hx]; exact Int.le_refl _
      · exact hs1 x (st - 1) x1 (by omega) (by omega)
    have q2 : kf L (p - (st - 1)) ≤ kf L y := by
      by_cases hy : y = p - (st - 1)
      · rw [hy]; exact Int.le_refl _
      · exact hs2 _ y (by omega) (by omega) y2
    omega
end Go.Proofs.Ytlmgckijbamgpaa
