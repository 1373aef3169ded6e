/- Paths of types, in plain Lean: the names on the way, that a path leads to one type. -/
import Derived.Test.YtmlnecopbncdbaaTyE
namespace Go.Proofs.Ytmlnecopbncdbaa
set_option linter.unusedVariables false
set_option linter.unusedSimpArgs false
set_option maxRecDepth 100000

/-- the names on the way from the whole to a type; none behind a list -/
def pathN (L : List Ty) (k : Nat) : Option (List ByteArray) :=
  if k = 0 then some [] else
    match L[k]? with
    | none => none
    | some x =>
      if _hj : x.up.toNat < k then
        match L[x.up.toNat]? with
        | none => none
        | some y => if y.kind = 5 then (pathN L x.up.toNat).map (fun l => l ++ [x.name]) else none
      else none
termination_by k
theorem pathN_zero (L : List Ty) : pathN L 0 = some [] := by rw [pathN, if_pos rfl]
theorem pathN_step {L : List Ty} {k j : Nat} {x y : Ty} (hk : L[k]? = some x) (hj : x.up = (j : Int)) (hjk : j < k) (hy : L[j]? = some y) : pathN L k = if y.kind = 5 then (pathN L j).map (fun l => l ++ [x.name]) else none := by
  have e : x.up.toNat = j := by rw [hj]; exact Int.toNat_natCast j
  rw [pathN, if_neg (by omega), hk]
  simp only [e, dif_pos hjk, hy]
def joinL : List (List UInt8) → List UInt8
  | [] => []
  | [a] => a
  | a :: b :: r => a ++ 46 :: joinL (b :: r)
theorem joinL_snoc : ∀ (l : List (List UInt8)) (n : List UInt8), joinL (l ++ [n]) = if l = [] then n else joinL l ++ 46 :: n
  | [], n => by simp [joinL]
  | [a], n => by simp [joinL]
  | a :: b :: r, n => by
    rw [List.cons_append, List.cons_append, joinL, ← List.cons_append, joinL_snoc (b :: r) n, if_neg (by simp), if_neg (by simp), joinL, List.append_assoc, List.cons_append]
theorem joinL_cons (n : List UInt8) : ∀ (l : List (List UInt8)), joinL (n :: l) = if l = [] then n else n ++ 46 :: joinL l
  | [] => by simp [joinL]
  | b :: r => by rw [joinL, if_neg (by simp)]
/-- a name: not empty, without a dot -/
def nameL (a : List UInt8) : Prop := a ≠ [] ∧ (46 : UInt8) ∉ a
theorem dot_inj : ∀ (a b x y : List UInt8), (46 : UInt8) ∉ a → (46 : UInt8) ∉ b → a ++ 46 :: x = b ++ 46 :: y → a = b ∧ x = y
  | [], [], x, y, _, _, h => by simp at h; exact ⟨rfl, h⟩
  | [], c :: b, x, y, _, hb, h => by
    simp at h
    exact absurd (by rw [h.1]; simp) hb
  | c :: a, [], x, y, ha, _, h => by
    simp at h
    exact absurd (by rw [h.1]; simp) ha
  | c :: a, d :: b, x, y, ha, hb, h => by
    simp only [List.cons_append, List.cons.injEq] at h
    obtain ⟨h1, h2⟩ := dot_inj a b x y (fun q => ha (by simp [q])) (fun q => hb (by simp [q])) h.2
    exact ⟨by rw [h.1, h1], h2⟩
theorem joinL_ne {l : List (List UInt8)} (hl : ∀ a ∈ l, nameL a) (hne : l ≠ []) : joinL l ≠ [] := by
  match l, hne with
  | [a], _ => exact (hl a (by simp)).1
  | a :: b :: r, _ => rw [joinL]; simp
theorem joinL_inj : ∀ (l m : List (List UInt8)), (∀ a ∈ l, nameL a) → (∀ a ∈ m, nameL a) → joinL l = joinL m → l = m
  | [], [], _, _, _ => rfl
  | [], b :: m, _, hm, h => absurd h.symm (joinL_ne hm (by simp))
  | a :: l, [], hl, _, h => absurd h (joinL_ne hl (by simp))
  | [a], [b], _, _, h => by rw [joinL, joinL] at h; rw [h]
  | [a], b :: c :: m, hl, hm, h => by
    rw [joinL, joinL] at h
    exact absurd (by rw [h]; simp) (hl a (by simp)).2
  | a :: c :: l, [b], hl, hm, h => by
    rw [joinL, joinL] at h
    exact absurd (by rw [← h]; simp) (hm b (by simp)).2
  | a :: c :: l, b :: d :: m, hl, hm, h => by
    rw [joinL, joinL] at h
    obtain ⟨h1, h2⟩ := dot_inj a b _ _ (hl a (by simp)).2 (hm b (by simp)).2 h
    rw [h1, joinL_inj (c :: l) (d :: m) (fun q hq => hl q (List.mem_cons_of_mem _ hq)) (fun q hq => hm q (List.mem_cons_of_mem _ hq)) h2]
/-! ### texts -/
def bL (s : ByteArray) : List UInt8 := s.data.toList
theorem bL_inj {s t : ByteArray} (h : bL s = bL t) : s = t := by
  have h2 : s.data = t.data := Array.toList_inj.1 h
  cases s; cases t; simp only at h2; rw [h2]
theorem bL_app (a b : ByteArray) : bL (a ++ b) = bL a ++ bL b := by
  unfold bL
  rw [ByteArray.data_append, Array.toList_append]
theorem bL_len (a : ByteArray) : (bL a).length = a.size := by simp [bL]
/-- the text of a path -/
def joinD (ns : List ByteArray) : ByteArray := ⟨(joinL (ns.map bL)).toArray⟩
theorem bL_joinD (ns : List ByteArray) : bL (joinD ns) = joinL (ns.map bL) := by simp [bL, joinD]
theorem joinD_snoc (l : List ByteArray) (n : ByteArray) : joinD (l ++ [n]) = if l = [] then n else joinD l ++ ⟨#[46]⟩ ++ n := by
  apply bL_inj
  rw [bL_joinD, List.map_append, List.map_cons, List.map_nil, joinL_snoc]
  by_cases h : l = []
  · rw [if_pos h, if_pos (by simp [h])]
  · rw [if_neg h, if_neg (by simp [h]), bL_app, bL_app, bL_joinD, List.append_assoc]; rfl
theorem joinD_cons (n : ByteArray) (l : List ByteArray) : joinD (n :: l) = if l = [] then n else n ++ (⟨#[46]⟩ ++ joinD l) := by
  apply bL_inj
  rw [bL_joinD, List.map_cons, joinL_cons]
  by_cases h : l = []
  · rw [if_pos h, if_pos (by simp [h])]
  · rw [if_neg h, if_neg (by simp [h]), bL_app, bL_app, bL_joinD]; rfl
theorem joinD_nil : joinD [] = ⟨#[]⟩ := rfl
theorem joinD_size : ∀ (l : List ByteArray), (∀ n ∈ l, n.size ≤ 10) → (joinD l).size ≤ 11 * l.length
  | [], _ => by simp [joinD, joinL, ByteArray.size]
  | n :: l, h => by
    have h1 := h n (by simp)
    have h2 := joinD_size l (fun q hq => h q (List.mem_cons_of_mem _ hq))
    rw [← bL_len] at h1 h2 ⊢
    rw [joinD_cons]
    by_cases hl : l = []
    · rw [if_pos hl, List.length_cons]; omega
    · rw [if_neg hl, bL_app, bL_app, List.length_append, List.length_append, List.length_cons]
      have : (bL ⟨#[46]⟩).length = 1 := rfl
      omega
theorem nameB_L {s : ByteArray} (h : nameB s = true) : nameL (bL s) ∧ s.size ≤ 10 := by
  unfold nameB at h
  rw [Bool.and_eq_true, Bool.and_eq_true, decide_eq_true_iff, decide_eq_true_iff, List.all_eq_true] at h
  refine ⟨⟨fun e => ?_, fun hm => ?_⟩, h.2.2⟩
  · have := bL_len s; rw [e] at this; simp at this; omega
  · have := h.1 _ hm
    simp [lowC] at this
theorem joinD_inj {l m : List ByteArray} (hl : ∀ a ∈ l, nameB a = true) (hm : ∀ a ∈ m, nameB a = true) (h : joinD l = joinD m) : l = m := by
  have h1 := congrArg bL h
  rw [bL_joinD, bL_joinD] at h1
  have h2 := joinL_inj _ _ (fun a ha => by obtain ⟨q, hq, rfl⟩ := List.mem_map.1 ha; exact (nameB_L (hl q hq)).1) (fun a ha => by obtain ⟨q, hq, rfl⟩ := List.mem_map.1 ha; exact (nameB_L (hm q hq)).1) h1
  exact List.map_inj_right (fun x y hxy => bL_inj hxy) |>.1 h2
theorem joinD_ne {l : List ByteArray} (hl : ∀ a ∈ l, nameB a = true) (hne : l ≠ []) : ¬ joinD l = ⟨#[]⟩ := fun h => by
  have h1 := congrArg bL h
  rw [bL_joinD] at h1
  exact joinL_ne (l := l.map bL) (fun a ha => by obtain ⟨q, hq, rfl⟩ := List.mem_map.1 ha; exact (nameB_L (hl q hq)).1) (by simpa using hne) (by rw [h1]; rfl)
/-! ### rows -/
theorem row_part {L : List Ty} (h : RowsOK L) {k : Nat} {x : Ty} (hk : L[k]? = some x) (h0 : 0 < k) : ∃ (j : Nat) (y : Ty), x.up = (j : Int) ∧ j < k ∧ L[j]? = some y ∧ PartOf y.kind x.hd ∧ (y.kind = 5 → ∀ q z, j < q → q < k → L[q]? = some z → z.up = x.up → ¬ z.name = x.name) := by
  obtain ⟨j, y, h1, h2, h3, -, -, h6, h7⟩ := (h.1 k x hk).2.2 h0
  exact ⟨j, y, h1, h2, h3, h6, fun h5 q z a b c d => (h7 h5 q z a b c d).2⟩
theorem path_names {L : List Ty} (h : RowsOK L) : ∀ (k : Nat) (ns : List ByteArray), k < L.length → pathN L k = some ns → (∀ n ∈ ns, nameB n = true) ∧ ns.length ≤ k := by
  intro k
  induction k using Nat.strongRecOn with
  | _ k ih =>
    intro ns hkl hp
    by_cases h0 : k = 0
    · subst h0
      rw [pathN_zero] at hp; cases hp
      exact ⟨by simp, by simp⟩
    · have hk : L[k]? = some L[k] := List.getElem?_eq_getElem hkl
      obtain ⟨j, y, h1, h2, h3, h4, -⟩ := row_part h hk (by omega)
      rw [pathN_step hk h1 h2 h3] at hp
      by_cases h5 : y.kind = 5
      · rw [if_pos h5] at hp
        cases hq : pathN L j with
        | none => rw [hq] at hp; cases hp
        | some ms =>
          rw [hq] at hp
          simp only [Option.map_some, Option.some.injEq] at hp
          subst hp
          obtain ⟨g1, g2⟩ := ih j h2 ms (by omega) hq
          refine ⟨fun n hn => ?_, by rw [List.length_append]; simp; omega⟩
          rcases List.mem_append.1 hn with hn | hn
          · exact g1 n hn
          · rw [List.mem_singleton] at hn
            rw [hn]
            exact (h4.1 h5).1
      · rw [if_neg h5] at hp; cases hp
theorem path_inj {L : List Ty} (h : RowsOK L) : ∀ (k k' : Nat) (ns : List ByteArray), k < L.length → k' < L.length → pathN L k = some ns → pathN L k' = some ns → k = k' := by
  intro k
  induction k using Nat.strongRecOn with
  | _ k ih =>
    intro k' ns hkl hkl' hp hp'
    by_cases h0 : k = 0
    · subst h0
      rw [pathN_zero] at hp; cases hp
      by_cases h0' : k' = 0
      · rw [h0']
      · exfalso
        have hk' : L[k']? = some L[k'] := List.getElem?_eq_getElem hkl'
        obtain ⟨j, y, h1, h2, h3, -⟩ := row_part h hk' (by omega)
        rw [pathN_step hk' h1 h2 h3] at hp'
        split at hp'
        · cases hq : pathN L j with
          | none => rw [hq] at hp'; cases hp'
          | some ms => rw [hq] at hp'; simp at hp'
        · cases hp'
    · have hk : L[k]? = some L[k] := List.getElem?_eq_getElem hkl
      obtain ⟨j, y, h1, h2, h3, -, h4⟩ := row_part h hk (by omega)
      rw [pathN_step hk h1 h2 h3] at hp
      by_cases h5 : y.kind = 5
      case neg => rw [if_neg h5] at hp; cases hp
      rw [if_pos h5] at hp
      cases hq : pathN L j with
      | none => rw [hq] at hp; cases hp
      | some ms =>
      rw [hq] at hp
      simp only [Option.map_some, Option.some.injEq] at hp
      by_cases h0' : k' = 0
      · subst h0'
        rw [pathN_zero] at hp'
        simp only [Option.some.injEq] at hp'
        rw [← hp'] at hp
        simp at hp
      have hk' : L[k']? = some L[k'] := List.getElem?_eq_getElem hkl'
      obtain ⟨j', y', h1', h2', h3', -, h4'⟩ := row_part h hk' (by omega)
      rw [pathN_step hk' h1' h2' h3'] at hp'
      by_cases h5' : y'.kind = 5
      case neg => rw [if_neg h5'] at hp'; cases hp'
      rw [if_pos h5'] at hp'
      cases hq' : pathN L j' with
      | none => rw [hq'] at hp'; cases hp'
      | some ms' =>
      rw [hq'] at hp'
      simp only [Option.map_some, Option.some.injEq] at hp'
      rw [← hp'] at hp
      obtain ⟨e1, e2⟩ := List.append_inj' hp rfl
      simp only [List.cons.injEq, and_true] at e2
      subst e1
      obtain rfl := ih j h2 j' ms (by omega) (by omega) hq hq'
      rw [h3] at h3'; cases h3'
      rcases Nat.lt_trichotomy k k' with hlt | he | hgt
      · exact absurd e2 (h4' h5 k _ h2 hlt hk (by rw [h1, h1']))
      · exact he
      · exact absurd e2.symm (h4 h5 k' _ h2' hgt hk' (by rw [h1, h1']))
/-! ### what a path is told as -/
def pathB (L : List Ty) (k : Nat) : Bool := (pathN L k).isSome
def pathS (L : List Ty) (k : Nat) : ByteArray := match pathN L k with | some ns => joinD ns | none => ⟨#[]⟩
theorem paths_inj {L : List Ty} (h : RowsOK L) {k k' : Nat} (hk : k < L.length) (hk' : k' < L.length) (hb : pathB L k = true) (hb' : pathB L k' = true) (he : pathS L k = pathS L k') : k = k' := by
  unfold pathB at hb hb'
  unfold pathS at he
  cases h1 : pathN L k with
  | none => rw [h1] at hb; cases hb
  | some ns =>
  cases h2 : pathN L k' with
  | none => rw [h2] at hb'; cases hb'
  | some ms =>
  rw [h1, h2] at he
  have e := joinD_inj (path_names h k ns hk h1).1 (path_names h k' ms hk' h2).1 he
  subst e
  exact path_inj h k k' ns hk hk' h1 h2
theorem pathS_size {L : List Ty} (h : RowsOK L) {k : Nat} (hk : k < L.length) : (pathS L k).size ≤ 11 * k := by
  unfold pathS
  cases h1 : pathN L k with
  | none => exact Nat.zero_le _
  | some ns =>
    obtain ⟨g1, g2⟩ := path_names h k ns hk h1
    have := joinD_size ns (fun n hn => (nameB_L (g1 n hn)).2)
    show (joinD ns).size ≤ _
    omega
end Go.Proofs.Ytmlnecopbncdbaa
