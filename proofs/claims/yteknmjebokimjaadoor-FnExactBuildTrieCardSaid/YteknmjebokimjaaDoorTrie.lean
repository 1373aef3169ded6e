/- The contracts of GoodTrie's callees: a node of a level below another one, how deep a node lies. -/
import Derived.Test.YteknmjebokimjaaDoorTrieL
import Derived.Test.YteknmjebokimjaaDoorTopic
namespace Go.Proofs.YteknmjebokimjaaDoor
set_option linter.unusedVariables false
open Go.ChangeShapes Go.WideShapes Go.ChangeAt Go.RowKit
set_option maxRecDepth 100000

theorem sib_no {t : List Nd} {u : Int} {s : ByteArray} {k : Nat} (h : ∀ j, j < k → sib t u s j = false) (hk : sib t u s k = false) : ∀ j, j < k + 1 → sib t u s j = false := fun j hj => by
  rcases Nat.lt_or_ge j k with h1 | h1
  · exact h j h1
  · obtain rfl : j = k := by omega
    exact hk
theorem str_eqv {x y : ByteArray} : (x.toList = y.toList) ↔ x = y := by
  rw [ByteArray.toList_eq, ByteArray.toList_eq]
  exact ⟨fun h => ba_ext h, fun h => by rw [h]⟩
/-- the cells of a node -/
theorem nd_cells {w : World} {B : Nat} {a : Option Addr} {n cap : Nat} {t : List Nd} (h : kTrieNodeS.rd B w [.slice a n cap] t) {k : Nat} (hk : k < t.length) :
    ∃ x b off aw cw, t[k]? = some x ∧ a = some ⟨b, off, none⟩ ∧ b < B ∧ w.cell? ⟨b, off + k * 3, none⟩ = some (.string x.1) ∧ w.cell? ⟨b, off + k * 3 + 1, none⟩ = some (.int .i64 x.2.1) ∧ w.cell? ⟨b, off + k * 3 + 2, none⟩ = some (.slice aw x.2.2.length cw) ∧ x.1.size ≤ maxLen ∧ (Lit.int .i64 x.2.1).wf = true ∧ kIntS.rd B w [.slice aw x.2.2.length cw] x.2.2 := by
  obtain ⟨x, hx⟩ : ∃ x, t[k]? = some x := ⟨t[k], List.getElem?_eq_getElem hk⟩
  obtain ⟨v, b, off, hr, ha, hbl, hcell⟩ := sl_at kTrieNode_ok (n := 3) rfl (by decide) h hx
  obtain ⟨aw, cw, rfl, h1, h2, h3⟩ := TrieNode_rd hr
  refine ⟨x, b, off, aw, cw, hx, ha, hbl, ?_, ?_, ?_, h1, h2, h3⟩
  · have := hcell 0 _ rfl; simpa [Nat.add_assoc] using this
  · have := hcell 1 _ rfl; simpa [Nat.add_assoc] using this
  · have := hcell 2 _ rfl; simpa [Nat.add_assoc] using this

set_option maxHeartbeats 4000000 in
theorem spec_kid (t : List Nd) (a : Option Addr) (n cap : Nat) (u : Int) (s : ByteArray) (w : World) (h : kTrieNodeS.rd w.heap.size w [.slice a n cap] t) (hl : t.length ≤ 1048576) (hs : s.size ≤ maxLen) :
    Calls Tryd.prog 68 #[.slice a n cap, .int .i64 u, .string s] w fun e w' => e = .returned (.int .i64 (kidR t u s)) ∧ Below w.heap.size w w' := by
  have hln := (sl_len h).2
  obtain rfl : n = t.length := (sl_len h).1
  have H := Lib.hid h
  unfold maxLen at hs
  clear h
  go_enter Tryd.func68, Tryd.ntmps68
  go_wp2_with fail
  go_loopw [11] (fun iv wr => ∃ (k : Nat), k ≤ t.length ∧ iv = .int .i64 (k : Int) ∧ Hid (∀ j, j < k → sib t u s j = false) ∧ Hid (Below w.heap.size w wr)) (fun iv _ => t.length - (intOf iv).toNat)
  case atStart => exact ⟨0, by omega, rfl, Lib.hid (by intro j hj; omega), Below.refl _ _⟩
  case round =>
    obtain ⟨k, hk, rfl, HA, HB⟩ := hrel
    by_cases hlt : k < t.length
    case neg =>
      obtain rfl : k = t.length := by omega
      have HE := Lib.hid (kid_no HA.out)
      go_wp2_with fail
      go_ret
      exact ⟨ret_int HE.out.symm, HB.out⟩
    obtain ⟨x, b, off, aw, cw, hx, rfl, hbl, e0, e1, e2, hs1, _, _⟩ := nd_cells H.out hlt
    have c0 := below_cellk HB.out e0 hbl
    have c1 := below_cellk HB.out e1 hbl
    have c2 := below_cellk HB.out e2 hbl
    unfold maxLen at hs1
    have hnd : sib t u s k = (decide (0 < k) && (decide (x.2.1 = u) && decide (x.1 = s))) := by unfold sib; rw [nd_at hx]
    have HND := Lib.hid hnd
    have HYES : Hid (sib t u s k = true → kidR t u s = k) := Lib.hid (kid_at hlt HA.out)
    have HNO : Hid (sib t u s k = false → ∀ j, j < k + 1 → sib t u s j = false) := Lib.hid (sib_no HA.out)
    have HBO := Lib.hid (HB.out.alloc HB.out.size (.cells #[.string x.1, .int .i64 x.2.1, .slice aw x.2.2.length cw] 58))
    clear hx hnd e0 e1 e2
    rcases Nat.eq_zero_or_pos k with h0 | h0
    · have HN := Lib.hid (HNO.out (by rw [HND.out]; simp [h0]))
      have hz : ¬ 0 < k := by omega
      clear h0
      go_wp2_with fail
      go_roundw
      case rel => exact ⟨k + 1, by omega, by go_num, HN, HBO⟩
      case measure => simp [intOf]; omega
    · by_cases h1 : x.2.1 = u
      · cases h2 : (x.1.toList == s.toList)
        · have HN := Lib.hid (HNO.out (by rw [HND.out]; simp only [beq_eq_false_iff_ne, ne_eq] at h2; simp [h0, h1, ← str_eqv, h2]))
          have q1 : (x.2.1 == u) = true := by simp [h1]
          clear h1
          go_wp2_with fail
          go_roundw
          case rel => exact ⟨k + 1, by omega, by go_num, HN, HBO⟩
          case measure => simp [intOf]; omega
        · have HY := Lib.hid (HYES.out (by rw [HND.out]; simp only [beq_iff_eq] at h2; simp [h0, h1, ← str_eqv, h2]))
          have q1 : (x.2.1 == u) = true := by simp [h1]
          clear h1
          go_wp2_with fail
          go_ret
          exact ⟨ret_int HY.out.symm, HBO.out⟩
      · have HN := Lib.hid (HNO.out (by rw [HND.out]; simp [h1]))
        have q1 : (x.2.1 == u) = false := by simp [h1]
        clear h1
        go_wp2_with fail
        go_roundw
        case rel => exact ⟨k + 1, by omega, by go_num, HN, HBO⟩
        case measure => simp [intOf]; omega

set_option maxHeartbeats 2000000 in
theorem spec_deep (t : List Nd) (a : Option Addr) (n cap : Nat) (k0 : Nat) (w : World) (h : kTrieNodeS.rd w.heap.size w [.slice a n cap] t) (hl : t.length ≤ 1048576) (hk0 : k0 < t.length) (hu : Ups t (k0 + 1)) :
    Calls Tryd.prog 81 #[.slice a n cap, .int .i64 (k0 : Int)] w fun e w' => e = .returned (.int .i64 ((depR t k0 k0 : Nat) : Int)) ∧ w = w' := by
  have hln := (sl_len h).2
  obtain rfl : n = t.length := (sl_len h).1
  have H := Lib.hid h
  have HU := Lib.hid hu
  clear h hu
  go_enter Tryd.func81, Tryd.ntmps81
  go_wp2_with fail
  go_loop [1, 5] (fun kv nv => ∃ (k n : Nat), k ≤ k0 ∧ n ≤ k0 - k ∧ kv = .int .i64 (k : Int) ∧ nv = .int .i64 (n : Int) ∧ Hid (n + depR t k k = depR t k0 k0)) (fun kv _ => (intOf kv).toNat)
  case atStart => exact ⟨k0, 0, Nat.le_refl _, by omega, rfl, rfl, Lib.hid (by omega)⟩
  case round =>
    obtain ⟨k, n, hkk, hn, rfl, rfl, HD⟩ := hrel
    rcases Nat.eq_zero_or_pos k with h0 | h0
    · have HE : Hid (n = depR t k0 k0) := Lib.hid (by have := HD.out; rw [h0] at this; simpa [depR] using this)
      have hz : ¬ 0 < k := by omega
      clear h0
      go_wp2_with fail
      go_ret
      exact ⟨ret_int (by rw [HE.out]), rfl⟩
    · obtain ⟨x, b, off, aw, cw, hx, rfl, hbl, c0, c1, c2, hs1, _, _⟩ := nd_cells H.out (show k < t.length by omega)
      have hup := HU.out k h0 (by omega)
      have hst := dep_step (t := t) (k := k) (fun j h1 h2 => HU.out j h1 (by omega)) h0
      rw [nd_at hx] at hup hst
      have HST := Lib.hid hst
      have hu0 := hup.1; have hu1 := hup.2
      clear hst hx hup c0 c2
      generalize x.2.1 = u at *
      go_wp2_with fail
      go_round
      case rel => exact ⟨u.toNat, n + 1, by omega, by omega, by go_num, by go_num, Lib.hid (by have := HD.out; have := HST.out; omega)⟩
      case measure => simp [intOf]; omega

/-! ### the program's -/
def kidP (u : Int) (s : ByteArray) (y : Nd) : Bool := decide (y.2.1 = u) && decide (y.1 = s)
set_option maxHeartbeats 1000000 in
theorem clo_kid (u : Int) (s : ByteArray) (hs : s.size ≤ maxLen) (x : Nd) (v : List Value) (B1 B2 : Nat) (w : World) (hr : kTrieNode.rd w.heap.size w v x) (h1 : w.cell? ⟨B1, 0, none⟩ = some (.int .i64 u)) (h2 : w.cell? ⟨B2, 0, none⟩ = some (.string s)) :
    Calls Tryd.prog 77 #[.agg v.toArray, .pointer (some ⟨B1, 0, none⟩), .pointer (some ⟨B2, 0, none⟩)] w fun e w' => e = .returned (.bool (kidP u s x)) ∧ Below w.heap.size w w' := by
  obtain ⟨aw, cw, rfl, hs1, _, _⟩ := TrieNode_rd hr
  have k1 := cell_alloc (.cells #[.string x.1, .int .i64 x.2.1, .slice aw x.2.2.length cw] 58) h1
  have k2 := cell_alloc (.cells #[.string x.1, .int .i64 x.2.1, .slice aw x.2.2.length cw] 58) h2
  have l1 := World.block_lt_of_cell? _ _ h1
  have l2 := World.block_lt_of_cell? _ _ h2
  unfold maxLen at hs hs1
  simp only at l1 l2
  clear hr
  by_cases e1 : x.2.1 = u
  · have q1 : (x.2.1 == u) = true := by simp [e1]
    cases e2 : (x.1.toList == s.toList)
    · have HP : Hid (kidP u s x = false) := Lib.hid (by unfold kidP; simp only [beq_eq_false_iff_ne, ne_eq] at e2; simp [e1, ← str_eqv, e2])
      clear e1
      go_enter Tryd.func77, Tryd.ntmps77
      go_wp2_with fail
      go_ret
      exact ⟨ret_bool HP.out.symm, (Below.refl _ _).alloc (Nat.le_refl _) _⟩
    · have HP : Hid (kidP u s x = true) := Lib.hid (by unfold kidP; simp only [beq_iff_eq] at e2; simp [e1, ← str_eqv, e2])
      clear e1
      go_enter Tryd.func77, Tryd.ntmps77
      go_wp2_with fail
      go_ret
      exact ⟨ret_bool HP.out.symm, (Below.refl _ _).alloc (Nat.le_refl _) _⟩
  · have q1 : (x.2.1 == u) = false := by simp [e1]
    have HP : Hid (kidP u s x = false) := Lib.hid (by unfold kidP; simp [e1])
    clear e1
    go_enter Tryd.func77, Tryd.ntmps77
    go_wp2_with fail
    go_ret
    exact ⟨ret_bool HP.out.symm, (Below.refl _ _).alloc (Nat.le_refl _) _⟩

set_option maxHeartbeats 1000000 in
theorem idx_kid {cs : List Value} {xs : List (ByteArray × Int × (List Int))} {w : World} (c0 : Value) (c1 : Value) (p : (ByteArray × Int × (List Int)) → Bool) (h : kTrieNodeS.rd w.heap.size w cs xs) (hclo : ∀ (wx : World) (x : (ByteArray × Int × (List Int))) (v : List Value), Below w.heap.size w wx → x ∈ xs → kTrieNode.rd wx.heap.size wx v x → Calls Tryd.prog 77 #[.agg v.toArray, c0, c1] wx fun e w' => e = .returned (.bool (p x)) ∧ Below wx.heap.size wx w') :
    Calls Tryd.prog 76 #[one cs, .func (.func 77) #[] #[c0, c1]] w fun e w' => e = .returned (.int .i64 (fidx p xs)) ∧ Below w.heap.size w w' := by
  obtain ⟨a, cap, vss, rfl, ⟨hc1, hc2⟩, hrow, hl⟩ := h
  unfold maxLen at hc2
  have hn : xs.length ≤ 9223372036854775807 := by omega
  show Calls Tryd.prog 76 #[.slice a xs.length cap, .func (.func 77) #[] #[c0, c1]] w _
  have HROW := Lib.hid hrow; have HL := Lib.hid hl; have HCL := Lib.hid hclo
  clear hrow hl hclo
  go_enter Tryd.func76, Tryd.ntmps76
  go_wp2_with fail
  go_loopw [8] (fun i wr => ∃ k : Nat, k ≤ xs.length ∧ i = .int .i64 k ∧ Hid ((xs.take k).any p = false) ∧ Hid (Below w.heap.size w wr)) (fun i _ => xs.length - (intOf i).toNat)
  case atStart => exact ⟨0, Nat.zero_le _, rfl, rfl, Below.refl _ _⟩
  case round =>
    obtain ⟨k, hk, rfl, HA, HB⟩ := hrel
    by_cases hlk : k < xs.length
    case neg =>
      go_wp2_with fail
      go_ret
      obtain rfl : k = xs.length := by omega
      have h1 := HA.out
      rw [List.take_length] at h1
      exact ⟨ret_int (fidx_none p xs h1).symm, HB.out⟩
    obtain ⟨x, hx⟩ : ∃ x, xs[k]? = some x := ⟨xs[k], List.getElem?_eq_getElem hlk⟩
    obtain ⟨v, b, off, hr, hv, rfl, hbl, hcell⟩ := elem_cells kTrieNode_ok (n := 3) rfl (by decide) HROW.out HL.out hx
    have hgd : xs.getD k x = x := by simp [List.getD, hx]
    have hyes : p x = true → fidx p xs = k := fun h => fidx_here p xs x k hlk HA.out (by rw [hgd]; exact h)
    have hno : p x = false → (xs.take (k + 1)).any p = false := fun h => fidx_next p xs x k hlk HA.out (by rw [hgd]; exact h)
    have HC := Lib.hid (HCL.out wr x v HB.out (List.mem_of_getElem? hx) (kTrieNode_ok.later hr HB.out))
    have HY := Lib.hid hyes; have HN := Lib.hid hno
    clear hx hv hgd hyes hno
    obtain ⟨ea2, ecap2, rfl, _, _, _⟩ := TrieNode_rd hr
    have c0 : wr.cell? ⟨b, off + k * 3, none⟩ = some _ := (HB.out.cell (p := ⟨b, off + k * 3, none⟩) hbl).trans (by have := hcell 0 _ rfl; simpa [Nat.add_assoc] using this)
    have c1 : wr.cell? ⟨b, off + k * 3 + 1, none⟩ = some _ := (HB.out.cell (p := ⟨b, off + k * 3 + 1, none⟩) hbl).trans (by have := hcell 1 _ rfl; simpa [Nat.add_assoc] using this)
    have c2 : wr.cell? ⟨b, off + k * 3 + 2, none⟩ = some _ := (HB.out.cell (p := ⟨b, off + k * 3 + 2, none⟩) hbl).trans (by have := hcell 2 _ rfl; simpa [Nat.add_assoc] using this)
    clear hcell
    cases hp : p x with
    | true =>
      rw [hp] at HC
      have HP := Lib.hid hp; clear hp
      go_wp2_with (go_at_call 77; refine HC.out.mono ?_; rintro e w2 ⟨rfl, hb2⟩; have HB2 := Lib.hid hb2; clear hb2)
      go_ret
      exact ⟨ret_int (HY.out HP.out).symm, HB.out.trans (HB2.out.mono HB.out.size)⟩
    | false =>
      rw [hp] at HC
      have HP := Lib.hid hp; clear hp
      go_wp2_with (go_at_call 77; refine HC.out.mono ?_; rintro e w2 ⟨rfl, hb2⟩; have HB2 := Lib.hid hb2; clear hb2)
      go_roundw
      case rel => exact ⟨k + 1, by omega, by go_num, HN.out HP.out, HB.out.trans (HB2.out.mono HB.out.size)⟩
      case measure => simp [intOf]; omega

set_option maxHeartbeats 1000000 in
theorem has_kid {cs : List Value} {xs : List (ByteArray × Int × (List Int))} {w : World} (c0 : Value) (c1 : Value) (p : (ByteArray × Int × (List Int)) → Bool) (h : kTrieNodeS.rd w.heap.size w cs xs) (hclo : ∀ (wx : World) (x : (ByteArray × Int × (List Int))) (v : List Value), Below w.heap.size w wx → x ∈ xs → kTrieNode.rd wx.heap.size wx v x → Calls Tryd.prog 77 #[.agg v.toArray, c0, c1] wx fun e w' => e = .returned (.bool (p x)) ∧ Below wx.heap.size wx w') :
    Calls Tryd.prog 92 #[one cs, .func (.func 77) #[] #[c0, c1]] w fun e w' => e = .returned (.bool (xs.any p)) ∧ Below w.heap.size w w' := by
  have HI := Lib.hid (idx_kid c0 c1 p h hclo)
  obtain ⟨a, cap, vss, rfl, ⟨hc1, hc2⟩, hrow, hl⟩ := h
  clear hclo hrow hl
  by_cases h : 0 ≤ fidx p xs
  · have H := Lib.hid ((fidx_any p xs).1 h)
    go_enter Tryd.func92, Tryd.ntmps92
    go_wp2_with (go_at_call 76; refine HI.out.mono ?_; rintro e w' ⟨rfl, hb2⟩; have HB2 := Lib.hid hb2; clear hb2)
    go_ret
    exact ⟨ret_bool (by rw [H.out]; try (simp; try omega)), HB2.out⟩
  · have H := Lib.hid (Bool.eq_false_iff.2 fun hc => h ((fidx_any p xs).2 hc))
    go_enter Tryd.func92, Tryd.ntmps92
    go_wp2_with (go_at_call 76; refine HI.out.mono ?_; rintro e w' ⟨rfl, hb2⟩; have HB2 := Lib.hid hb2; clear hb2)
    go_ret
    exact ⟨ret_bool (by rw [H.out]; try (simp; try omega)), HB2.out⟩

set_option maxHeartbeats 1000000 in
theorem impl_kid (t : List Nd) (a : Option Addr) (n cap : Nat) (u : Int) (s : ByteArray) (w : World) (h : kTrieNodeS.rd w.heap.size w [.slice a n cap] t) (hs : s.size ≤ maxLen) :
    Calls Tryd.prog 45 #[.slice a n cap, .int .i64 u, .string s] w fun e w' => e = .returned (.int .i64 (fidx (kidP u s) t)) ∧ Below w.heap.size w w' := by
  have HI := Lib.hid (fun (wx : World) (hb : Below w.heap.size w wx) (B1 B2 : Nat) (h1 : wx.cell? ⟨B1, 0, none⟩ = some (.int .i64 u)) (h2 : wx.cell? ⟨B2, 0, none⟩ = some (.string s)) => idx_kid (w := wx) (.pointer (some ⟨B1, 0, none⟩)) (.pointer (some ⟨B2, 0, none⟩)) (kidP u s) (kTrieNodeS_ok.later h hb) (fun wy x v hby _ hx => clo_kid u s hs x v B1 B2 wy hx (below_later hby h1) (below_later hby h2)))
  clear h
  go_enter Tryd.func45, Tryd.ntmps45
  go_wp2_with fail
  refine (HI.out _ (((Below.refl _ _).alloc (Nat.le_refl _) _).alloc (by simp) _) _ _ (by go_simp) (by go_simp)).mono ?_
  rintro e w2 ⟨rfl, hb⟩
  have HB := Lib.hid hb; clear hb
  go_wp2_with fail
  go_ret
  exact ⟨rfl, (((Below.refl _ _).alloc (Nat.le_refl _) _).alloc (by simp) _).trans (HB.out.mono (by simp; omega))⟩

set_option maxHeartbeats 1000000 in
theorem clo_nok (i : Int) (x : Nd) (v : List Value) (B1 : Nat) (w : World) (hr : kTrieNode.rd w.heap.size w v x) (h1 : w.cell? ⟨B1, 0, none⟩ = some (.int .i64 i)) :
    Calls Tryd.prog 93 #[.agg v.toArray, .pointer (some ⟨B1, 0, none⟩)] w fun e w' => e = .returned (.bool (decide (x.2.1 = i))) ∧ Below w.heap.size w w' := by
  obtain ⟨aw, cw, rfl, hs1, _, _⟩ := TrieNode_rd hr
  have k1 := cell_alloc (.cells #[.string x.1, .int .i64 x.2.1, .slice aw x.2.2.length cw] 58) h1
  have l1 := World.block_lt_of_cell? _ _ h1
  simp only at l1
  clear hr
  by_cases e1 : x.2.1 = i
  · have q1 : (x.2.1 == i) = true := by simp [e1]
    have HP : Hid (decide (x.2.1 = i) = true) := Lib.hid (by simp [e1])
    rw [HP.out]
    clear e1
    go_enter Tryd.func93, Tryd.ntmps93
    go_wp2_with fail
    go_ret
    exact ⟨rfl, (Below.refl _ _).alloc (Nat.le_refl _) _⟩
  · have q1 : (x.2.1 == i) = false := by simp [e1]
    have HP : Hid (decide (x.2.1 = i) = false) := Lib.hid (by simp [e1])
    rw [HP.out]
    clear e1
    go_enter Tryd.func93, Tryd.ntmps93
    go_wp2_with fail
    go_ret
    exact ⟨rfl, (Below.refl _ _).alloc (Nat.le_refl _) _⟩

set_option maxHeartbeats 1000000 in
theorem idx_nok {cs : List Value} {xs : List (ByteArray × Int × (List Int))} {w : World} (c0 : Value) (p : (ByteArray × Int × (List Int)) → Bool) (h : kTrieNodeS.rd w.heap.size w cs xs) (hclo : ∀ (wx : World) (x : (ByteArray × Int × (List Int))) (v : List Value), Below w.heap.size w wx → x ∈ xs → kTrieNode.rd wx.heap.size wx v x → Calls Tryd.prog 93 #[.agg v.toArray, c0] wx fun e w' => e = .returned (.bool (p x)) ∧ Below wx.heap.size wx w') :
    Calls Tryd.prog 76 #[one cs, .func (.func 93) #[] #[c0]] w fun e w' => e = .returned (.int .i64 (fidx p xs)) ∧ Below w.heap.size w w' := by
  obtain ⟨a, cap, vss, rfl, ⟨hc1, hc2⟩, hrow, hl⟩ := h
  unfold maxLen at hc2
  have hn : xs.length ≤ 9223372036854775807 := by omega
  show Calls Tryd.prog 76 #[.slice a xs.length cap, .func (.func 93) #[] #[c0]] w _
  have HROW := Lib.hid hrow; have HL := Lib.hid hl; have HCL := Lib.hid hclo
  clear hrow hl hclo
  go_enter Tryd.func76, Tryd.ntmps76
  go_wp2_with fail
  go_loopw [8] (fun i wr => ∃ k : Nat, k ≤ xs.length ∧ i = .int .i64 k ∧ Hid ((xs.take k).any p = false) ∧ Hid (Below w.heap.size w wr)) (fun i _ => xs.length - (intOf i).toNat)
  case atStart => exact ⟨0, Nat.zero_le _, rfl, rfl, Below.refl _ _⟩
  case round =>
    obtain ⟨k, hk, rfl, HA, HB⟩ := hrel
    by_cases hlk : k < xs.length
    case neg =>
      go_wp2_with fail
      go_ret
      obtain rfl : k = xs.length := by omega
      have h1 := HA.out
      rw [List.take_length] at h1
      exact ⟨ret_int (fidx_none p xs h1).symm, HB.out⟩
    obtain ⟨x, hx⟩ : ∃ x, xs[k]? = some x := ⟨xs[k], List.getElem?_eq_getElem hlk⟩
    obtain ⟨v, b, off, hr, hv, rfl, hbl, hcell⟩ := elem_cells kTrieNode_ok (n := 3) rfl (by decide) HROW.out HL.out hx
    have hgd : xs.getD k x = x := by simp [List.getD, hx]
    have hyes : p x = true → fidx p xs = k := fun h => fidx_here p xs x k hlk HA.out (by rw [hgd]; exact h)
    have hno : p x = false → (xs.take (k + 1)).any p = false := fun h => fidx_next p xs x k hlk HA.out (by rw [hgd]; exact h)
    have HC := Lib.hid (HCL.out wr x v HB.out (List.mem_of_getElem? hx) (kTrieNode_ok.later hr HB.out))
    have HY := Lib.hid hyes; have HN := Lib.hid hno
    clear hx hv hgd hyes hno
    obtain ⟨ea2, ecap2, rfl, _, _, _⟩ := TrieNode_rd hr
    have c0 : wr.cell? ⟨b, off + k * 3, none⟩ = some _ := (HB.out.cell (p := ⟨b, off + k * 3, none⟩) hbl).trans (by have := hcell 0 _ rfl; simpa [Nat.add_assoc] using this)
    have c1 : wr.cell? ⟨b, off + k * 3 + 1, none⟩ = some _ := (HB.out.cell (p := ⟨b, off + k * 3 + 1, none⟩) hbl).trans (by have := hcell 1 _ rfl; simpa [Nat.add_assoc] using this)
    have c2 : wr.cell? ⟨b, off + k * 3 + 2, none⟩ = some _ := (HB.out.cell (p := ⟨b, off + k * 3 + 2, none⟩) hbl).trans (by have := hcell 2 _ rfl; simpa [Nat.add_assoc] using this)
    clear hcell
    cases hp : p x with
    | true =>
      rw [hp] at HC
      have HP := Lib.hid hp; clear hp
      go_wp2_with (go_at_call 93; refine HC.out.mono ?_; rintro e w2 ⟨rfl, hb2⟩; have HB2 := Lib.hid hb2; clear hb2)
      go_ret
      exact ⟨ret_int (HY.out HP.out).symm, HB.out.trans (HB2.out.mono HB.out.size)⟩
    | false =>
      rw [hp] at HC
      have HP := Lib.hid hp; clear hp
      go_wp2_with (go_at_call 93; refine HC.out.mono ?_; rintro e w2 ⟨rfl, hb2⟩; have HB2 := Lib.hid hb2; clear hb2)
      go_roundw
      case rel => exact ⟨k + 1, by omega, by go_num, HN.out HP.out, HB.out.trans (HB2.out.mono HB.out.size)⟩
      case measure => simp [intOf]; omega

set_option maxHeartbeats 1000000 in
theorem has_nok {cs : List Value} {xs : List (ByteArray × Int × (List Int))} {w : World} (c0 : Value) (p : (ByteArray × Int × (List Int)) → Bool) (h : kTrieNodeS.rd w.heap.size w cs xs) (hclo : ∀ (wx : World) (x : (ByteArray × Int × (List Int))) (v : List Value), Below w.heap.size w wx → x ∈ xs → kTrieNode.rd wx.heap.size wx v x → Calls Tryd.prog 93 #[.agg v.toArray, c0] wx fun e w' => e = .returned (.bool (p x)) ∧ Below wx.heap.size wx w') :
    Calls Tryd.prog 92 #[one cs, .func (.func 93) #[] #[c0]] w fun e w' => e = .returned (.bool (xs.any p)) ∧ Below w.heap.size w w' := by
  have HI := Lib.hid (idx_nok c0 p h hclo)
  obtain ⟨a, cap, vss, rfl, ⟨hc1, hc2⟩, hrow, hl⟩ := h
  clear hclo hrow hl
  by_cases h : 0 ≤ fidx p xs
  · have H := Lib.hid ((fidx_any p xs).1 h)
    go_enter Tryd.func92, Tryd.ntmps92
    go_wp2_with (go_at_call 76; refine HI.out.mono ?_; rintro e w' ⟨rfl, hb2⟩; have HB2 := Lib.hid hb2; clear hb2)
    go_ret
    exact ⟨ret_bool (by rw [H.out]; try (simp; try omega)), HB2.out⟩
  · have H := Lib.hid (Bool.eq_false_iff.2 fun hc => h ((fidx_any p xs).2 hc))
    go_enter Tryd.func92, Tryd.ntmps92
    go_wp2_with (go_at_call 76; refine HI.out.mono ?_; rintro e w' ⟨rfl, hb2⟩; have HB2 := Lib.hid hb2; clear hb2)
    go_ret
    exact ⟨ret_bool (by rw [H.out]; try (simp; try omega)), HB2.out⟩

end Go.Proofs.YteknmjebokimjaaDoor
