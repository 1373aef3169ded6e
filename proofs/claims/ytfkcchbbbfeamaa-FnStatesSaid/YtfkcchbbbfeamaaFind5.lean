/- The contracts of FindWords, the program's and the reference's. -/
import Derived.Test.YtfkcchbbbfeamaaFind4
import Derived.Test.YtfkcchbbbfeamaaAuto9
import Derived.Test.YtfkcchbbbfeamaaHFoundS
namespace Go.Proofs.Ytfkcchbbbfeamaa
set_option linter.unusedVariables false
open Go.ChangeShapes Go.WideShapes Go.ChangeAt Go.RowKit
set_option maxRecDepth 100000

theorem FW_no {s : ByteArray} {ws : List ByteArray} (h : ¬ (s.size ≤ 200 ∧ wordsB ws = true)) : R_FindWords s ws = ([], false) := if_neg h
theorem FW_yes {s : ByteArray} {ws : List ByteArray} (h : s.size ≤ 200 ∧ wordsB ws = true) : R_FindWords s ws = (foundL ws s s.size, true) := if_pos h
theorem found_ow {w : World} {base : Nat} {v : Value} {o : List Fd} (ho : w.ownsRow base 62 2 v o.length (fds o)) (hw : ∀ x ∈ o, (Lit.int .i64 x.1).wf = true ∧ (Lit.int .i64 x.2).wf = true) : kFoundS.ow v.ownBlock.toList w [v] o := by
  have key : ∀ (o : List Fd), (∀ x ∈ o, (Lit.int .i64 x.1).wf = true ∧ (Lit.int .i64 x.2).wf = true) → ∃ fps vss, OwL kFound w fps vss o ∧ fps.flatten = [] ∧ vss.flatten = fds o := by
    intro o
    induction o with
    | nil => exact fun _ => ⟨[], [], trivial, rfl, rfl⟩
    | cons y ys ih =>
      intro h
      obtain ⟨fps, vss, h1, h2, h3⟩ := ih (fun z hz => h z (by simp [hz]))
      have hy := h y (by simp)
      exact ⟨[] :: fps, [.int .i64 y.1, .int .i64 y.2] :: vss, ⟨Found_owm hy.1 hy.2, h1⟩, by rw [List.flatten_cons, h2]; rfl, by rw [List.flatten_cons, h3]; simp [fds]⟩
  obtain ⟨fps, vss, h1, h2, h3⟩ := key o hw
  refine ⟨v, vss, fps, rfl, ?_, h1, by rw [h2, List.append_nil], ?_⟩
  · rw [h3]; exact own_mono ho (Nat.zero_le _)
  · cases v.ownBlock <;> simp
theorem foundAt_next (ws : List ByteArray) (s : ByteArray) (e n : Nat) : foundAt ws s e (n + 1) = foundAt ws s e n ++ (if endsB (s.extract 0 e) (ws.getD n ByteArray.empty) = true then [((e : Int) - ((ws.getD n ByteArray.empty).size : Int), (n : Int))] else []) := by
  unfold foundAt
  rw [ends_next, List.map_append]
  congr 1
  split <;> simp
theorem foundAt_le (ws : List ByteArray) (s : ByteArray) (e n : Nat) : (foundAt ws s e n).length ≤ n := by
  unfold foundAt; rw [List.length_map]; exact ends_len
theorem foundL_le (ws : List ByteArray) (s : ByteArray) (h : ws.length ≤ 8) : ∀ e, (foundL ws s e).length ≤ 8 * e
  | 0 => by simp [foundL]
  | e + 1 => by
    have h1 := foundL_le ws s h e
    have h2 := foundAt_le ws s (e + 1) ws.length
    rw [foundL, List.length_append]; omega
theorem foundL_ok {ws : List ByteArray} {s : ByteArray} {e : Nat} (he : e ≤ 200) (hw : wordsB ws = true) {x : Fd} (hx : x ∈ foundL ws s e) : okF ws x ∧ (Lit.int .i64 x.1).wf = true ∧ (Lit.int .i64 x.2).wf = true := by
  obtain ⟨h1, h2, h3, h4⟩ := foundL_end hx
  have hl := (wordsB_of hw).1
  have hk : x.2.toNat < ws.length := by omega
  have hz := ((wordsB_of hw).2 (ws.getD x.2.toNat ByteArray.empty) (by rw [List.getD, List.getElem?_eq_getElem hk]; exact List.getElem_mem hk)).2
  unfold keyF at h1 h2
  exact ⟨⟨h3, h4, by omega, by omega⟩, WalkArith.wf_i64 (by omega), WalkArith.wf_i64 (by omega)⟩
theorem R_FindWords_ok (s : ByteArray) (ws : List ByteArray) (_h : kStringS.wt ws ≤ 1048576) : kFoundS.cnt (R_FindWords s ws).1 ≤ 16777215 := by
  have key : ∀ o : List Fd, kFoundS.cnt o = 2 * o.length := by
    intro o
    show sumL kFound.cnt o = _
    induction o with
    | nil => rfl
    | cons x r ih => rw [sumL, ih, List.length_cons]; show 1 + 1 + _ = _; omega
  rw [key]
  by_cases h : s.size ≤ 200 ∧ wordsB ws = true
  · rw [FW_yes h]
    have := foundL_le ws s (wordsB_of h.2).1 s.size
    show 2 * (foundL ws s s.size).length ≤ _
    omega
  · rw [FW_no h]; decide
theorem Try.infoFound : (Try.prog.info? 62).map (fun i => (i.zero, i.size, i.bytes)) = some (some (Value.agg #[Value.int .i64 0, Value.int .i64 0]), 2, 16) := by kernel_rfl
set_option maxHeartbeats 4000000 in
theorem spec_FindWords (w : World) (cs1 : List Value) (a0 : ByteArray) (a1 : List ByteArray) (h1 : kStringS.rd w.heap.size w cs1 a1) (hs : a0.size ≤ maxLen) (_ht : kStringS.wt a1 ≤ 1048576) :
    Calls Try.prog 38 #[.string a0, one cs1] w (Made kFoundS (fun cs => .tuple #[one cs, .bool (R_FindWords a0 a1).2]) (R_FindWords a0 a1).1 w) := by
  unfold maxLen at hs
  obtain ⟨a, cap, rfl, hrow, hc1, hc2, hsz⟩ := strS_row h1
  show Calls Try.prog 38 #[.string a0, .slice a a1.length cap] w _
  obtain ⟨j0, hj, hj0, hj1, hj2⟩ := info_parts Try.infoFound
  have HW := Lib.hid (spec_words a cap a1 w hrow (by omega) hsz)
  have HR := Lib.hid hrow; have HSZ := Lib.hid hsz
  clear h1 hrow hsz _ht
  unfold Made
  by_cases h2 : a0.size ≤ 200
  case neg =>
    rw [FW_no (fun h => h2 h.1)]
    have hd : (200 : Int) < (a0.size : Int) := by omega
    go_enter Try.func38, Try.ntmps38
    go_wp2_with fail
    go_ret2
    exact ⟨[.slice none 0 0], [], rfl, ⟨_, [], [], rfl, World.ownsRow_nil _ _ _ _, trivial, rfl, List.nodup_nil⟩, List.nodup_nil, by simp, Below.refl _ _⟩
  have hd : ¬ (200 : Int) < (a0.size : Int) := by omega
  cases hb : wordsB a1 with
  | false =>
    rw [FW_no (fun h => by rw [hb] at h; cases h.2)]
    rw [hb] at HW
    clear hb
    go_enter Try.func38, Try.ntmps38
    go_wp2_with fail
    refine HW.out.mono ?_
    rintro e w' ⟨rfl, rfl⟩
    go_wp2_with fail
    go_ret2
    exact ⟨[.slice none 0 0], [], rfl, ⟨_, [], [], rfl, World.ownsRow_nil _ _ _ _, trivial, rfl, List.nodup_nil⟩, List.nodup_nil, by simp, Below.refl _ _⟩
  | true =>
    rw [FW_yes ⟨h2, hb⟩]
    rw [hb] at HW
    have hl8 := (wordsB_of hb).1
    have HWB := Lib.hid hb
    clear hb hd
    go_enter Try.func38, Try.ntmps38
    go_wp2_with fail
    refine HW.out.mono ?_
    rintro e w' ⟨rfl, rfl⟩
    have HO0 : Hid (w.ownsRow w.heap.size 62 2 (.slice none 0 0) (foundL a1 a0 0).length (fds (foundL a1 a0 0))) := Lib.hid (World.ownsRow_nil _ _ _ _)
    have HB0 := Lib.hid (Below.refl w.heap.size w)
    go_wp2_with fail
    go_loopw [6, 7] (fun out ev wr => ∃ e : Nat, e ≤ a0.size ∧ ev = .int .i64 ((e : Int) + 1) ∧ (True) ∧ Hid (wr.ownsRow (w.heap.size) 62 2 out (foundL a1 a0 e).length (fds (foundL a1 a0 e))) ∧ Hid (Below (w.heap.size) (w) wr)) (fun _ ev _ => a0.size + 1 - (intOf ev).toNat)
    case atStart => exact ⟨0, Nat.zero_le _, rfl, by first | trivial | exact ⟨_, _, _, rfl⟩, HO0, HB0⟩
    case round =>
      clear HO0 HB0
      obtain ⟨w1, rfl⟩ : ∃ z : World, z = wr := ⟨_, rfl⟩
      obtain ⟨e, he, rfl, HOP, HO, HB⟩ := hrel
      have HLE := Lib.hid (foundL_le a1 a0 hl8 e)
      skip
      by_cases hle : e < a0.size
      case neg =>
        obtain rfl : e = a0.size := by omega
        obtain ⟨oq, oc, hv⟩ := form_of_own HO.out
        subst hv
        go_wp2_with fail
        go_ret2
        exact ⟨[.slice oq (foundL a1 a0 a0.size).length oc], _, rfl, found_ow HO.out (fun x hx => (foundL_ok h2 HWB.out hx).2), by cases (Value.slice oq (foundL a1 a0 a0.size).length oc).ownBlock <;> simp, fun b hb => (HO.out.lt b (by simpa using hb)).1, HB.out⟩
      obtain ⟨oq, oc, hv⟩ := form_of_own HO.out
      subst hv
      have hee : (e : Int) + 1 ≤ (a0.size : Int) := by omega
      have he0 : (0 : Int) ≤ (e : Int) + 1 := by omega
      have het : ((e : Int) + 1).toNat = e + 1 := by omega
      have hez : (a0.extract 0 (e + 1)).size = e + 1 := by rw [ex_size _ _ _ (by omega)]; omega
      go_wp2_with fail
      go_loopw [6, 26] (fun out iv wr => ∃ n : Nat, n ≤ a1.length ∧ iv = .int .i64 (n : Int) ∧ (True) ∧ Hid (wr.ownsRow (w.heap.size) 62 2 out (foundL a1 a0 e ++ foundAt a1 a0 (e + 1) n).length (fds (foundL a1 a0 e ++ foundAt a1 a0 (e + 1) n))) ∧ Hid (Below (w.heap.size) (w) wr)) (fun _ iv _ => a1.length - (intOf iv).toNat)
      case atStart => exact ⟨0, Nat.zero_le _, rfl, by first | trivial | exact ⟨_, _, _, rfl⟩, by simpa [foundAt, endsL] using HO, HB⟩
      case round =>
        clear HO HB HOP
        obtain ⟨w2, rfl⟩ : ∃ z : World, z = wr := ⟨_, rfl⟩
        obtain ⟨n, hn, rfl, HOP, HO, HB⟩ := hrel
        obtain ⟨oq, oc, hv⟩ := form_of_own HO.out
        subst hv
        by_cases hln : n < a1.length
        case neg =>
          obtain rfl : n = a1.length := by omega
          go_wp2_with fail
          go_roundw
          case rel => exact ⟨e + 1, by omega, by go_num, by first | trivial | exact HOP | (obtain ⟨g, c, m, h⟩ := HOP; simp only [Value.slice.injEq] at h; obtain ⟨rfl, _, _⟩ := h; exact ⟨_, _, _, rfl⟩), HO, HB⟩
          case measure => simp [intOf]; omega
        obtain ⟨b, off, rfl, hbl, hc⟩ := (HR.out.below (HB.out.mono (by omega))).at (strs_ne hln)
        have hc1 := hc n _ (strs_at a1 n hln)
        have hs20 := (HSZ.out (a1.getD n ByteArray.empty) (by rw [List.getD, List.getElem?_eq_getElem hln]; exact List.getElem_mem hln))
        have HEN := Lib.hid (foundAt_next a1 a0 (e + 1) n)
        have HSF := Lib.hid (spec_ends (a0.extract 0 (e + 1)) (a1.getD n ByteArray.empty) w2 (by omega) (by omega))
        have hfl := foundAt_le a1 a0 (e + 1) n
        have hol : (foundL a1 a0 e ++ foundAt a1 a0 (e + 1) n).length ≤ 1700 := by rw [List.length_append]; have := HLE.out; omega
        clear hc hbl
        generalize a1.getD n ByteArray.empty = v at *
        cases hev : endsB (a0.extract 0 (e + 1)) v with
        | false =>
          rw [hev] at HEN HSF
          have HEQ : Hid (foundAt a1 a0 (e + 1) (n + 1) = foundAt a1 a0 (e + 1) n) := Lib.hid (by rw [HEN.out]; simp)
          clear hev
          go_wp2_with fail
          refine HSF.out.mono ?_
          rintro e' w' ⟨rfl, rfl⟩
          go_wp2_with fail
          go_roundw
          case rel => exact ⟨n + 1, by omega, by go_num, by first | trivial | exact HOP | (obtain ⟨g, c, m, h⟩ := HOP; simp only [Value.slice.injEq] at h; obtain ⟨rfl, _, _⟩ := h; exact ⟨_, _, _, rfl⟩), by rw [HEQ.out]; simp only [List.length_append] at HO ⊢; exact HO, HB⟩
          case measure => simp [intOf]; omega
        | true =>
          rw [hev] at HEN HSF
          have HEQ : Hid (foundL a1 a0 e ++ foundAt a1 a0 (e + 1) (n + 1) = (foundL a1 a0 e ++ foundAt a1 a0 (e + 1) n) ++ [(((e + 1 : Nat) : Int) - (v.size : Int), (n : Int))]) := Lib.hid (by rw [HEN.out, List.append_assoc]; simp)
          have hsz2 := HB.out.size
          have hvx : IntKind.i64.wrap ((e : Int) + 1 - (v.size : Int)) = ((e + 1 : Nat) : Int) - (v.size : Int) := by rw [IntWalk.i64_in _ (by omega)]; omega
          have hvy : (e : Int) + 1 - (v.size : Int) = ((e + 1 : Nat) : Int) - (v.size : Int) := by omega
          clear hev
          generalize foundL a1 a0 e ++ foundAt a1 a0 (e + 1) n = o at *
          generalize ((e + 1 : Nat) : Int) - (v.size : Int) = at1 at *
          have HO6 := Lib.hid (HO.out.alloc (.cells #[.int .i64 at1, .int .i64 (n : Int)] 62))
          have HNW := Lib.hid (World.news_of_block (cs := #[Value.int .i64 at1, Value.int .i64 (n : Int)]) (t := 62) (fr := (0, 0)) (heap_alloc_new w2 (.cells #[.int .i64 at1, .int .i64 (n : Int)] 62)))
          go_wp2_with fail
          refine HSF.out.mono ?_
          rintro e' w' ⟨rfl, rfl⟩
          go_wp2_with (at_builtin; refine wpList_append_lies rfl _ _ 53 rfl (w.heap.size) 62 j0 (.agg #[.int .i64 0, .int .i64 0]) 2 16 Try.underlying53 hj hj0 hj1 hj2 rfl (by decide) _ o.length (fds o) rfl HO6.out ⟨w2.heap.size, 0, none⟩ 1 1 [.int .i64 at1, .int .i64 (n : Int)] rfl rfl HNW.out (by simp [Value.oneCell']) (by omega) (by unfold maxLen; omega) (by omega) (by first | (simp; omega) | (have := HB.out.size; simp at this ⊢; omega)) (w2.heap.size + 1) (by simp) ?_)
          intro g9 c9 w9 hown9 hgrow hat _
          have HO9 : Hid (w9.ownsRow (w.heap.size) 62 2 (.slice (some ⟨g9, 0, none⟩) (o.length + 1) c9) (o ++ [(at1, (n : Int))]).length (fds (o ++ [(at1, (n : Int))]))) := Lib.hid (by rw [fds_app, List.length_append]; exact hown9)
          have HB9 : Hid (Below (w.heap.size) _ w9) := Lib.hid (Below.grown (HB.out.alloc (by first | exact hsz2 | (have := HB.out.size; simp at this ⊢; omega)) _) hgrow (by first | (simp; omega) | (have := HB.out.size; simp at this ⊢; omega)) (fun j hj => (HO6.out.lt j hj).1))
          rw [← HEQ.out] at HO9
          clear hown9 hgrow hat HO HO6
          go_wp2_with fail
          go_roundw
          case rel => exact ⟨n + 1, by omega, by go_num, by first | trivial | exact ⟨_, _, _, rfl⟩, HO9, HB9⟩
          case measure => simp [intOf]; omega
set_option maxHeartbeats 4000000 in
theorem impl_FindWords (w : World) (cs1 : List Value) (a0 : ByteArray) (a1 : List ByteArray) (h1 : kStringS.rd w.heap.size w cs1 a1) (hs : a0.size ≤ maxLen) (_ht : kStringS.wt a1 ≤ 1048576) :
    Calls Try.prog 39 #[.string a0, one cs1] w (Made kFoundS (fun cs => .tuple #[one cs, .bool (R_FindWords a0 a1).2]) (R_FindWords a0 a1).1 w) := by
  unfold maxLen at hs
  obtain ⟨a, cap, rfl, hrow, hc1, hc2, hsz⟩ := strS_row h1
  show Calls Try.prog 39 #[.string a0, .slice a a1.length cap] w _
  obtain ⟨j0, hj, hj0, hj1, hj2⟩ := info_parts Try.infoFound
  have hbw : Below w.heap.size w (w.alloc (.cells #[.slice a a1.length cap] 39)) := (Below.refl _ _).alloc (Nat.le_refl _) _
  have HW := Lib.hid (wordsOK_any a cap a1 (w.alloc (.cells #[.slice a a1.length cap] 39)) ((hrow.below hbw).rw (by simp)) (by omega) hsz)
  have HR : Hid (Rb w.heap.size (w.alloc (.cells #[.slice a a1.length cap] 39)) a (strs a1)) := Lib.hid (hrow.below hbw)
  have HSZ := Lib.hid hsz
  have kb : (w.alloc (.cells #[.slice a a1.length cap] 39)).cell? ⟨w.heap.size, 0, none⟩ = some (.slice a a1.length cap) := by rw [World.cell?_alloc_new]; rfl
  have HBW := Lib.hid hbw
  clear h1 hrow hsz _ht hbw
  unfold Made
  by_cases h2 : a0.size ≤ 200
  case neg =>
    rw [FW_no (fun h => h2 h.1)]
    have hd : (200 : Int) < (a0.size : Int) := by omega
    go_enter Try.func39, Try.ntmps39
    go_wp2_with fail
    go_ret2
    exact ⟨[.slice none 0 0], [], rfl, ⟨_, [], [], rfl, World.ownsRow_nil _ _ _ _, trivial, rfl, List.nodup_nil⟩, List.nodup_nil, by simp, HBW.out⟩
  have hd : ¬ (200 : Int) < (a0.size : Int) := by omega
  cases hb : wordsB a1 with
  | false =>
    rw [FW_no (fun h => by rw [hb] at h; cases h.2)]
    rw [hb] at HW
    clear hb
    go_enter Try.func39, Try.ntmps39
    go_wp2_with fail
    refine HW.out.mono ?_
    rintro e w' ⟨rfl, rfl⟩
    go_wp2_with fail
    go_ret2
    exact ⟨[.slice none 0 0], [], rfl, ⟨_, [], [], rfl, World.ownsRow_nil _ _ _ _, trivial, rfl, List.nodup_nil⟩, List.nodup_nil, by simp, HBW.out⟩
  | true =>
    rw [FW_yes ⟨h2, hb⟩]
    rw [hb] at HW
    have hl8 := (wordsB_of hb).1
    have HWB := Lib.hid hb
    clear hb hd
    have HO0 : Hid (((w.alloc (.cells #[.slice a a1.length cap] 39)).alloc (.cells #[] 62)).ownsRow (w.heap.size + 1) 62 2 (.slice (some ⟨w.heap.size + 1, 0, none⟩) 0 0) (foundL a1 a0 0).length (fds (foundL a1 a0 0))) := Lib.hid (by
      have := World.ownsRow_lit (base := w.heap.size + 1) (e := 62) (size := 2) (w.alloc (.cells #[.slice a a1.length cap] 39)) #[] 0 (by simp) (by decide) rfl
      simpa [foundL, fds] using this)
    have HB0 : Hid (Below (w.heap.size + 1) (w.alloc (.cells #[.slice a a1.length cap] 39)) ((w.alloc (.cells #[.slice a a1.length cap] 39)).alloc (.cells #[] 62))) := Lib.hid ((Below.refl _ _).alloc (by simp) _)
    go_enter Try.func39, Try.ntmps39
    go_wp2_with fail
    refine HW.out.mono ?_
    rintro e w' ⟨rfl, rfl⟩
    go_wp2_with fail
    go_loopw [6, 7] (fun out ev wr => ∃ e : Nat, e ≤ a0.size ∧ ev = .int .i64 ((e : Int) + 1) ∧ (∃ g c m, out = Value.slice (some ⟨g, 0, none⟩) m c) ∧ Hid (wr.ownsRow ((w.heap.size + 1)) 62 2 out (foundL a1 a0 e).length (fds (foundL a1 a0 e))) ∧ Hid (Below ((w.heap.size + 1)) ((w.alloc (.cells #[.slice a a1.length cap] 39))) wr)) (fun _ ev _ => a0.size + 1 - (intOf ev).toNat)
    case atStart => exact ⟨0, Nat.zero_le _, rfl, by first | trivial | exact ⟨_, _, _, rfl⟩, HO0, HB0⟩
    case round =>
      clear HO0 HB0
      obtain ⟨w1, rfl⟩ : ∃ z : World, z = wr := ⟨_, rfl⟩
      obtain ⟨e, he, rfl, HOP, HO, HB⟩ := hrel
      have HLE := Lib.hid (foundL_le a1 a0 hl8 e)
      have hbx := below_cellk HB.out kb (by omega)
      by_cases hle : e < a0.size
      case neg =>
        obtain rfl : e = a0.size := by omega
        obtain ⟨oq, oc, hv⟩ := form_of_own HO.out
        subst hv
        go_wp2_with fail
        obtain ⟨g, c', m', hg⟩ := HOP
        simp only [Value.slice.injEq] at hg
        obtain ⟨rfl, -, -⟩ := hg
        have hcap := own_caps HO.out
        unfold maxLen at hcap
        have hbx1 : w1.cell? ⟨w.heap.size, 0, none⟩ = some (.slice a a1.length cap) := hbx
        have hrw1 : Rw w1 a (strs a1) := (HR.out.below (HB.out.mono (by omega))).rw (by have := HB.out.size; simp at this; omega)
        have hfs := foundL_sorted a1 a0 a0.size
        have hle2 := HLE.out
        have hSo : So w1 g w.heap.size (foundL a1 a0 a0.size) := by
          refine ⟨fun wx hbw k hk => ?_, fun i j hij hj' wx hbw => ?_, by omega⟩
          · have ho := own_later HO.out hbw
            have f1 := ho.cellAt (k * 2) (by omega)
            have f2 := ho.cellAt (k * 2 + 1) (by omega)
            obtain ⟨q1, q2⟩ := fds_at hk
            rw [q1] at f1; rw [q2] at f2
            exact ⟨f1, f2⟩
          · have hmi : (foundL a1 a0 a0.size).getD i (0, 0) ∈ foundL a1 a0 a0.size := by rw [List.getD, List.getElem?_eq_getElem (by omega)]; exact List.getElem_mem _
            have hmj : (foundL a1 a0 a0.size).getD j (0, 0) ∈ foundL a1 a0 a0.size := by rw [List.getD, List.getElem?_eq_getElem hj']; exact List.getElem_mem _
            refine (clo_cmp w.heap.size a cap a1 _ _ wx (below_later hbw hbx1) (hrw1.below hbw) (foundL_ok h2 HWB.out hmj).1 (foundL_ok h2 HWB.out hmi).1 (wordsB_of HWB.out).2 hl8).mono ?_
            rintro e w' ⟨rfl, hbe⟩
            exact ⟨_, rfl, cmp_le (sorted_at hfs hij hj'), hbe⟩
        refine (sort_func hSo oc hcap.1 (by omega) w1 (Below.refl _ _)).mono ?_
        rintro e w5 ⟨rfl, hb5⟩
        have HB5 := Lib.hid (rstep (box_below HB.out) hb5)
        have HO5 := Lib.hid (own_later HO.out hb5)
        clear hb5 hSo
        go_wp2_with fail
        go_ret2
        exact ⟨[.slice (some ⟨g, 0, none⟩) (foundL a1 a0 a0.size).length oc], _, rfl, found_ow HO5.out (fun x hx => (foundL_ok h2 HWB.out hx).2), by simp [Value.ownBlock], fun b hb => by have := (HO5.out.lt b (by simpa using hb)).1; omega, HB5.out⟩
      obtain ⟨oq, oc, hv⟩ := form_of_own HO.out
      subst hv
      have hee : (e : Int) + 1 ≤ (a0.size : Int) := by omega
      have he0 : (0 : Int) ≤ (e : Int) + 1 := by omega
      have het : ((e : Int) + 1).toNat = e + 1 := by omega
      have hez : (a0.extract 0 (e + 1)).size = e + 1 := by rw [ex_size _ _ _ (by omega)]; omega
      go_wp2_with fail
      go_loopw [6, 27] (fun out iv wr => ∃ n : Nat, n ≤ a1.length ∧ iv = .int .i64 (n : Int) ∧ (∃ g c m, out = Value.slice (some ⟨g, 0, none⟩) m c) ∧ Hid (wr.ownsRow ((w.heap.size + 1)) 62 2 out (foundL a1 a0 e ++ foundAt a1 a0 (e + 1) n).length (fds (foundL a1 a0 e ++ foundAt a1 a0 (e + 1) n))) ∧ Hid (Below ((w.heap.size + 1)) ((w.alloc (.cells #[.slice a a1.length cap] 39))) wr)) (fun _ iv _ => a1.length - (intOf iv).toNat)
      case atStart => exact ⟨0, Nat.zero_le _, rfl, by first | trivial | exact ⟨_, _, _, rfl⟩, by simpa [foundAt, endsL] using HO, HB⟩
      case round =>
        clear HO HB HOP
        obtain ⟨w2, rfl⟩ : ∃ z : World, z = wr := ⟨_, rfl⟩
        obtain ⟨n, hn, rfl, HOP, HO, HB⟩ := hrel
        obtain ⟨oq, oc, hv⟩ := form_of_own HO.out
        subst hv
        by_cases hln : n < a1.length
        case neg =>
          obtain rfl : n = a1.length := by omega
          go_wp2_with fail
          go_roundw
          case rel => exact ⟨e + 1, by omega, by go_num, by first | trivial | exact HOP | (obtain ⟨g, c, m, h⟩ := HOP; simp only [Value.slice.injEq] at h; obtain ⟨rfl, _, _⟩ := h; exact ⟨_, _, _, rfl⟩), HO, HB⟩
          case measure => simp [intOf]; omega
        obtain ⟨b, off, rfl, hbl, hc⟩ := (HR.out.below (HB.out.mono (by omega))).at (strs_ne hln)
        have hc1 := hc n _ (strs_at a1 n hln)
        have hs20 := (HSZ.out (a1.getD n ByteArray.empty) (by rw [List.getD, List.getElem?_eq_getElem hln]; exact List.getElem_mem hln))
        have HEN := Lib.hid (foundAt_next a1 a0 (e + 1) n)
        have HSF := Lib.hid (has_suffix (a0.extract 0 (e + 1)) (a1.getD n ByteArray.empty) w2 (by omega) (by omega))
        have hfl := foundAt_le a1 a0 (e + 1) n
        have hol : (foundL a1 a0 e ++ foundAt a1 a0 (e + 1) n).length ≤ 1700 := by rw [List.length_append]; have := HLE.out; omega
        clear hc hbl
        generalize a1.getD n ByteArray.empty = v at *
        cases hev : endsB (a0.extract 0 (e + 1)) v with
        | false =>
          rw [hev] at HEN HSF
          have HEQ : Hid (foundAt a1 a0 (e + 1) (n + 1) = foundAt a1 a0 (e + 1) n) := Lib.hid (by rw [HEN.out]; simp)
          clear hev
          go_wp2_with fail
          refine HSF.out.mono ?_
          rintro e' w' ⟨rfl, rfl⟩
          go_wp2_with fail
          go_roundw
          case rel => exact ⟨n + 1, by omega, by go_num, by first | trivial | exact HOP | (obtain ⟨g, c, m, h⟩ := HOP; simp only [Value.slice.injEq] at h; obtain ⟨rfl, _, _⟩ := h; exact ⟨_, _, _, rfl⟩), by rw [HEQ.out]; simp only [List.length_append] at HO ⊢; exact HO, HB⟩
          case measure => simp [intOf]; omega
        | true =>
          rw [hev] at HEN HSF
          have HEQ : Hid (foundL a1 a0 e ++ foundAt a1 a0 (e + 1) (n + 1) = (foundL a1 a0 e ++ foundAt a1 a0 (e + 1) n) ++ [(((e + 1 : Nat) : Int) - (v.size : Int), (n : Int))]) := Lib.hid (by rw [HEN.out, List.append_assoc]; simp)
          have hsz2 := HB.out.size
          have hvx : IntKind.i64.wrap ((e : Int) + 1 - (v.size : Int)) = ((e + 1 : Nat) : Int) - (v.size : Int) := by rw [IntWalk.i64_in _ (by omega)]; omega
          have hvy : (e : Int) + 1 - (v.size : Int) = ((e + 1 : Nat) : Int) - (v.size : Int) := by omega
          clear hev
          generalize foundL a1 a0 e ++ foundAt a1 a0 (e + 1) n = o at *
          generalize ((e + 1 : Nat) : Int) - (v.size : Int) = at1 at *
          have HO6 := Lib.hid (HO.out.alloc (.cells #[.int .i64 at1, .int .i64 (n : Int)] 62))
          have HNW := Lib.hid (World.news_of_block (cs := #[Value.int .i64 at1, Value.int .i64 (n : Int)]) (t := 62) (fr := (0, 0)) (heap_alloc_new w2 (.cells #[.int .i64 at1, .int .i64 (n : Int)] 62)))
          go_wp2_with fail
          refine HSF.out.mono ?_
          rintro e' w' ⟨rfl, rfl⟩
          go_wp2_with (at_builtin; refine wpList_append_lies rfl _ _ 53 rfl ((w.heap.size + 1)) 62 j0 (.agg #[.int .i64 0, .int .i64 0]) 2 16 Try.underlying53 hj hj0 hj1 hj2 rfl (by decide) _ o.length (fds o) rfl HO6.out ⟨w2.heap.size, 0, none⟩ 1 1 [.int .i64 at1, .int .i64 (n : Int)] rfl rfl HNW.out (by simp [Value.oneCell']) (by omega) (by unfold maxLen; omega) (by omega) (by first | (simp; omega) | (have := HB.out.size; simp at this ⊢; omega)) (w2.heap.size + 1) (by simp) ?_)
          intro g9 c9 w9 hown9 hgrow hat _
          have HO9 : Hid (w9.ownsRow ((w.heap.size + 1)) 62 2 (.slice (some ⟨g9, 0, none⟩) (o.length + 1) c9) (o ++ [(at1, (n : Int))]).length (fds (o ++ [(at1, (n : Int))]))) := Lib.hid (by rw [fds_app, List.length_append]; exact hown9)
          have HB9 : Hid (Below ((w.heap.size + 1)) _ w9) := Lib.hid (Below.grown (HB.out.alloc (by first | exact hsz2 | (have := HB.out.size; simp at this ⊢; omega)) _) hgrow (by first | (simp; omega) | (have := HB.out.size; simp at this ⊢; omega)) (fun j hj => (HO6.out.lt j hj).1))
          rw [← HEQ.out] at HO9
          clear hown9 hgrow hat HO HO6
          go_wp2_with fail
          go_roundw
          case rel => exact ⟨n + 1, by omega, by go_num, by first | trivial | exact ⟨_, _, _, rfl⟩, HO9, HB9⟩
          case measure => simp [intOf]; omega
end Go.Proofs.Ytfkcchbbbfeamaa
