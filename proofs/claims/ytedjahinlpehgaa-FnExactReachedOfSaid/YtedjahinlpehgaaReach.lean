/- The contracts of ReachedOf, the program's and the reference's. -/
import Derived.Test.YtedjahinlpehgaaReachL
import Derived.Test.YtedjahinlpehgaaTurn
import Derived.Test.YtedjahinlpehgaaShelf
import Derived.Sort.OwnSortedInts
import Derived.Laws.AppendOwnNone
namespace Go.Proofs.Ytedjahinlpehgaa
set_option linter.unusedVariables false
open Go.ChangeShapes Go.WideShapes Go.ChangeAt Go.RowKit
set_option maxRecDepth 100000

theorem intrw_cell {w : World} {a : Option Addr} {xs : List Int} (h : Rw w a (ints xs)) {i : Nat} (hi : i < xs.length) : ∃ b off x, xs[i]? = some x ∧ a = some ⟨b, off, none⟩ ∧ b < w.heap.size ∧ w.cell? ⟨b, off + i, none⟩ = some (.int .i64 x) := by
  obtain ⟨b, off, ha, hb, hc⟩ := h.at (fun e => by have := congrArg List.length e; simp at this; rw [this] at hi; simp at hi)
  exact ⟨b, off, xs[i], List.getElem?_eq_getElem hi, ha, hb, hc i _ (by simp [ints, hi])⟩
theorem ints_one (xs : List Int) (x : Int) : ints (xs ++ [x]) = ints xs ++ [.int .i64 x] := by simp [ints]
theorem has_no {xs : List Int} {i : Nat} {x k : Int} (h : hasI (xs.take i) k = false) (hx : xs[i]? = some x) (hk : ¬ x = k) : hasI (xs.take (i + 1)) k = false := by
  unfold hasI at *
  rw [take_next xs i x hx]
  simp only [List.contains_eq_mem, List.mem_append, List.mem_singleton, decide_eq_false_iff_not, not_or] at *
  exact ⟨h, fun e => hk e.symm⟩

set_option maxHeartbeats 1000000 in
theorem spec_has (a : Option Addr) (cap : Nat) (xs : List Int) (k : Int) (w : World) (h : Rw w a (ints xs)) (hn : xs.length ≤ 1048577) :
    Calls Try.prog 73 #[.slice a xs.length cap, .int .i64 k] w fun e w' => e = .returned (.bool (hasI xs k)) ∧ w = w' := by
  have HA := Lib.hid h; clear h
  go_enter Try.func73, Try.ntmps73
  go_wp2_with fail
  go_loop [9] (fun iv => ∃ (i : Nat), i ≤ xs.length ∧ iv = .int .i64 (i : Int) ∧ Hid (hasI (xs.take i) k = false)) (fun iv => xs.length - (intOf iv).toNat)
  case atStart => exact ⟨0, by omega, rfl, rfl⟩
  case round =>
    obtain ⟨i, hil, rfl, HN⟩ := hrel
    by_cases hlt : i < xs.length
    case neg =>
      obtain rfl : i = xs.length := by omega
      have HE : Hid (hasI xs k = false) := Lib.hid (by have := HN.out; rwa [List.take_length] at this)
      go_wp2_with fail
      go_ret
      exact ⟨ret_bool HE.out.symm, rfl⟩
    obtain ⟨b, off, x, hx, rfl, hbl, hc⟩ := intrw_cell HA.out hlt
    by_cases he : x = k
    · have HE : Hid (hasI xs k = true) := Lib.hid (by subst he; unfold hasI; simpa using List.mem_of_getElem? hx)
      have hq : (x == k) = true := by simp [he]
      clear he hx
      go_wp2_with fail
      go_ret
      exact ⟨ret_bool HE.out.symm, rfl⟩
    · have HE := Lib.hid (has_no HN.out hx he)
      have hq : (x == k) = false := by simp [he]
      clear he hx
      go_wp2_with fail
      go_round
      case rel => exact ⟨i + 1, by omega, by go_num, HE.out⟩
      case measure => simp [intOf]; omega

theorem impl_has (g cap : Nat) (xs : List Int) (k : Int) (w : World) (h : Rw w (some ⟨g, 0, none⟩) (ints xs)) (hn : xs.length ≤ 1048577) :
    Calls Try.prog 64 #[.slice (some ⟨g, 0, none⟩) xs.length cap, .int .i64 k] w fun e w' => e = .returned (.bool (hasI xs k)) ∧ w = w' := by
  refine (Try.slices_Contains_int g 0 xs.length cap xs k w (Nat.le_refl _) (by omega) (fun j hj => ?_)).mono ?_
  · obtain ⟨b, off, x, hx, ha, _, hc⟩ := intrw_cell h hj
    simp only [Option.some.injEq, Addr.mk.injEq, and_true] at ha
    obtain ⟨rfl, rfl⟩ := ha
    have : xs.getD j 0 = x := by simp [List.getD, hx]
    rw [this]; exact hc
  · rintro e w' ⟨rfl, rfl⟩
    rw [List.take_length]
    exact ⟨rfl, rfl⟩
theorem own_one (w : World) (T : TypeId) (x : Value) (h : w.heap.size = w.heap.size) : (w.alloc (.cells #[x] T)).ownsRow w.heap.size T 1 (.slice (some ⟨w.heap.size, 0, none⟩) 1 1) 1 [x] :=
  ⟨rfl, .inr ⟨w.heap.size, 1, #[x], rfl, Nat.le_refl _, heap_alloc_new w _, Nat.le_refl _, by unfold maxLen; omega, rfl, rfl⟩⟩

theorem own_box (w : World) (o : Obj) : ((w.alloc o).alloc (.cells #[.int .i64 0] 3)).ownsRow (w.alloc o).heap.size 3 1 (.slice (some ⟨w.heap.size + 1, 0, none⟩) 1 1) 1 (ints [0]) := by
  have h := own_one (w.alloc o) 3 (.int .i64 0) rfl
  rw [show (w.alloc o).heap.size = w.heap.size + 1 by simp] at h ⊢
  exact h

/-- the loop over the states that are reached, from the world W on, whose block BX holds the machine -/
theorem ord_one {m : Mach} (h : GoodM m) (i : Nat) : i < (ordR m i).length → i + 1 ≤ (ordR m (i + 1)).length ∧ i + 1 ≤ 12 := by
  intro hi
  have h1 := (ord_inv h i).len
  have h2 := h.n12
  refine ⟨?_, by omega⟩
  rw [ord_next hi]
  have : ∀ (l o : List Int), o.length ≤ (l.foldl visit o).length := by
    intro l
    induction l with
    | nil => intro o; exact Nat.le_refl _
    | cons x r ih =>
      intro o
      rw [List.foldl_cons]
      refine Nat.le_trans ?_ (ih _)
      unfold visit; split <;> simp
  have := this (rowAt m ((ordR m i).getD i 0)) (ordR m i)
  omega

set_option maxHeartbeats 4000000 in
theorem spec_order (w : World) (ea eb : Option Addr) (ecap ecap' : Nat) (a0 : Mach) (hn : kIntSS.rd w.heap.size w [.slice ea a0.1.length ecap] a0.1) (hm : GoodM a0) :
    Calls Try.prog 62 #[.agg #[.slice ea a0.1.length ecap, .slice eb a0.2.length ecap']] w fun e w' => ∃ v, e = .returned v ∧ w'.ownsRow w.heap.size 3 1 v (ordR a0 12).length (ints (ordR a0 12)) ∧ Below w.heap.size w w' := by
  obtain ⟨i0, hi, hz0, hz1, hz2⟩ := info_parts Try.infoHIntS
  have HN := Lib.hid hn
  have hlc := (sl_len hn).2
  have h12 := hm.n12
  have HM := Lib.hid hm
  have HINV := Lib.hid (ord_inv hm)
  have HONE := Lib.hid (ord_one hm)
  have HBW : Hid (Below w.heap.size w (w.alloc (.cells #[.slice ea a0.1.length ecap, .slice eb a0.2.length ecap'] 28))) := Lib.hid ((Below.refl _ _).alloc (Nat.le_refl _) _)
  have HMA : Hid ((w.alloc (.cells #[.slice ea a0.1.length ecap, .slice eb a0.2.length ecap'] 28)).cell? ⟨w.heap.size, 0, none⟩ = some (.slice ea a0.1.length ecap)) := Lib.hid (box_cell (box_start w _) 0)
  clear hn hm
  go_enter Try.func62, Try.ntmps62
  go_wp2_with fail
  go_loopw [3, 4] (fun ov iv wr => ∃ (i : Nat) (v : Value), i ≤ 12 ∧ i ≤ (ordR a0 i).length ∧ iv = .int .i64 (i : Int) ∧ ov = v ∧ Hid (wr.ownsRow (w.alloc (.cells #[.slice ea a0.1.length ecap, .slice eb a0.2.length ecap'] 28)).heap.size 3 1 v (ordR a0 i).length (ints (ordR a0 i))) ∧ Hid (Below (w.alloc (.cells #[.slice ea a0.1.length ecap, .slice eb a0.2.length ecap'] 28)).heap.size (w.alloc (.cells #[.slice ea a0.1.length ecap, .slice eb a0.2.length ecap'] 28)) wr)) (fun _ iv _ => 12 - (intOf iv).toNat)
  case atStart => exact ⟨0, _, by omega, by simp [ordR], rfl, rfl, Lib.hid (own_box _ _), (Below.refl _ _).alloc (Nat.le_refl _) _⟩
  case round =>
    obtain ⟨i, v, hi12, hil, rfl, rfl, HO, HB⟩ := hrel
    have hinv := HINV.out i
    have hle := hinv.len
    have hl1 := hinv.one
    by_cases hlt : i < (ordR a0 i).length
    case neg =>
      have HE := Lib.hid (ord_end HM.out i hi12 (by omega))
      have HO' : Hid (wr.ownsRow (w.alloc (.cells #[.slice ea a0.1.length ecap, .slice eb a0.2.length ecap'] 28)).heap.size 3 1 u3 (ordR a0 12).length (ints (ordR a0 12))) := Lib.hid (by rw [HE.out]; exact HO.out)
      clear hinv
      obtain ⟨g, cp, rfl, hg1, hg2⟩ := HO.out.form (by omega)
      (go_wp2_with fail; go_ret; exact ⟨_, rfl, own_mono HO'.out HBW.out.size, HBW.out.trans (HB.out.mono HBW.out.size)⟩)
    obtain ⟨g, cp, rfl, hg1, hg2⟩ := HO.out.form (by omega)
    have hk : (ordR a0 i)[i]? = some ((ordR a0 i).getD i 0) := by simp [List.getD, hlt]
    have hr := hinv.rg _ (List.mem_of_getElem? hk)
    obtain ⟨r1, r2, r3⟩ := row_in HM.out hr.1 hr.2
    have HNX := Lib.hid (ord_next hlt)
    have c0 : wr.cell? ⟨g, i, none⟩ = some (.int .i64 ((ordR a0 i).getD i 0)) := by rw [HO.out.cellAt i (by omega), ints_at _ _ hlt]
    have HIV := Lib.hid hinv
    clear hinv hk
    generalize (ordR a0 i).getD i 0 = k0 at *
    obtain ⟨u, b, off, hu, hea, hbl, hc⟩ := sl_one kIntS_ok rfl HN.out r1
    obtain ⟨al, acap, hu2⟩ := kSl_form hu
    simp only [List.cons.injEq, and_true] at hu2
    subst hu2
    have c1 : wr.cell? ⟨b, off + k0.toNat, none⟩ = some (.slice al (rowAt a0 k0).length acap) := below_cellk (HBW.out.trans (HB.out.mono HBW.out.size)) hc hbl
    have ma : wr.cell? ⟨w.heap.size, 0, none⟩ = some (.slice (some ⟨b, off, none⟩) a0.1.length ecap) := (below_later HB.out HMA.out).trans (by rw [hea])
    have HR3 := Lib.hid r3; have HL3 := Lib.hid r2
    have HU := Lib.hid hu
    have hk0 := hr.1; have hk1 := hr.2
    have hwrap : (rowAt a0 k0).length ≤ 3 := by omega
    clear r1 r2 r3 hu hc hr hea
    generalize rowAt a0 k0 = l at *
    obtain ⟨wo, rfl⟩ : ∃ z : World, z = wr := ⟨_, rfl⟩
    go_wp2_with fail
    go_quiet (fail)
    go_wp2_with fail
    go_loopw [3, 23] (fun ov jv ws => ∃ (j : Nat) (v : Value), j ≤ l.length ∧ jv = .int .i64 (j : Int) ∧ ov = v ∧ Hid (ws.ownsRow (w.alloc (.cells #[.slice ea a0.1.length ecap, .slice eb a0.2.length ecap'] 28)).heap.size 3 1 v ((l.take j).foldl visit (ordR a0 i)).length (ints ((l.take j).foldl visit (ordR a0 i)))) ∧ Hid (Below (w.alloc (.cells #[.slice ea a0.1.length ecap, .slice eb a0.2.length ecap'] 28)).heap.size (w.alloc (.cells #[.slice ea a0.1.length ecap, .slice eb a0.2.length ecap'] 28)) ws)) (fun _ jv _ => l.length - (intOf jv).toNat)
    case atStart => exact ⟨0, _, by omega, rfl, rfl, own_drewN HO.out _, below_drewN HB.out _⟩
    case round =>
      obtain ⟨j, v, hjl, rfl, rfl, HOJ, HBJ⟩ := hrel
      by_cases hlj : j < l.length
      case neg =>
        obtain rfl : j = l.length := by omega
        rw [List.take_length, ← HNX.out] at HOJ
        have hi2 := HINV.out (i + 1)
        have hl2 := HONE.out i
        clear hi2
        go_wp2_with fail
        go_roundw
        case rel => exact ⟨i + 1, _, by omega, by omega, by go_num, rfl, HOJ, HBJ⟩
        case measure => simp [intOf]; omega
      obtain ⟨y, hy⟩ : ∃ y, l[j]? = some y := ⟨l[j], List.getElem?_eq_getElem hlj⟩
      have HY := Lib.hid (fold_take l (ordR a0 i) j y hy)
      have hiv : OInv a0.1.length ((l.take j).foldl visit (ordR a0 i)) := HIV.out.fold fun z hz => HR3.out z (List.mem_of_mem_take hz)
      have hol := hiv.len
      have ho1 := hiv.one
      have HWRB := Lib.hid (HBW.out.trans (HBJ.out.mono HBW.out.size))
      obtain ⟨u2, b2, off2, hu2, rfl, hbl2, hc2⟩ := sl_one kInt_ok rfl HU.out hy
      obtain ⟨hu2, hwf⟩ := hu2
      simp only [List.cons.injEq, and_true] at hu2
      subst hu2
      have c2 : wr.cell? ⟨b2, off2 + j, none⟩ = some (.int .i64 y) := below_cellk HWRB.out hc2 hbl2
      clear hy hiv hc2
      generalize (l.take j).foldl visit (ordR a0 i) = o at *
      obtain ⟨g2, cp2, rfl, hg3, hg4⟩ := HOJ.out.form (by omega)
      have HRW := Lib.hid (own_rw HOJ.out)
      have HC3 : Hid (o.length + 1 ≤ maxLen) := Lib.hid (by unfold maxLen; omega)
      have HC4 : Hid ((o.length + 1) * 8 ≤ 140737488355328) := Lib.hid (by omega)
      cases hcb : hasI o y with
      | true =>
        have HV : Hid ((l.take (j + 1)).foldl visit (ordR a0 i) = o) := Lib.hid (by rw [HY.out]; unfold visit; rw [if_pos hcb])
        have HCB := Lib.hid hcb; clear hcb
        go_wp2_with (go_at_call 73; refine (spec_has _ _ o y _ HRW.out (by omega)).mono ?_; rw [HCB.out]; rintro e w' ⟨rfl, rfl⟩)
        go_roundw
        case rel => exact ⟨j + 1, _, by omega, by go_num, rfl, by rw [HV.out]; exact HOJ, HBJ⟩
        case measure => simp [intOf]; omega
      | false =>
        have HV : Hid ((l.take (j + 1)).foldl visit (ordR a0 i) = o ++ [y]) := Lib.hid (by rw [HY.out]; unfold visit; rw [if_neg (by rw [hcb]; simp)])
        have HCB := Lib.hid hcb; clear hcb
        go_wp2_with (first | (go_at_call 73; refine (spec_has _ _ o y _ HRW.out (by omega)).mono ?_; rw [HCB.out]; rintro e w' ⟨rfl, rfl⟩) | (at_builtin; refine wpList_append_own _ rfl _ _ 42 rfl _ 3 i0 (.int .i64 0) 1 8 Try.underlying42 hi hz0 hz1 hz2 rfl (by decide) _ o.length _ rfl (HOJ.out.alloc _) _ 1 1 [.int .i64 y] rfl rfl (news_one _ _ _) (by simp [Value.oneCell']) HC3.out HC4.out (Nat.le_trans HBJ.out.size (by simp)) ?_))
        intro v' w2 hown hgrow hnil
        have HBG := Lib.hid (Below.grown (HBJ.out.alloc HBJ.out.size _) hgrow (Nat.le_trans HBJ.out.size (by simp)) (fun j hj => (HOJ.out.lt j hj).1))
        have HOW := Lib.hid hown; clear hown hgrow hnil
        go_wp2_with fail
        go_roundw
        case rel => exact ⟨j + 1, _, by omega, by go_num, rfl, Lib.hid (by rw [HV.out, ints_one, List.length_append]; simpa using HOW.out), HBG⟩
        case measure => simp [intOf]; omega

/-! ### a number put to its place, once -/
theorem ints_take (xs : List Int) (k : Nat) : (ints xs).take k = ints (xs.take k) := by simp [ints, List.map_take]
theorem ints_drop (xs : List Int) (k : Nat) : (ints xs).drop k = ints (xs.drop k) := by simp [ints, List.map_drop]
theorem ints_app (xs ys : List Int) : ints (xs ++ ys) = ints xs ++ ints ys := by simp [ints]
theorem ints_oc (xs : List Int) : ∀ u ∈ ints xs, u.oneCell' = true := by intro u hu; simp only [ints, List.mem_map] at hu; obtain ⟨z, _, rfl⟩ := hu; rfl
theorem news_take {w : World} {base : Nat} {e : TypeId} {g cap : Nat} {xs : List Int} (h : w.ownsRow base e 1 (.slice (some ⟨g, 0, none⟩) xs.length cap) xs.length (ints xs)) (k : Nat) : ∀ (j : Nat) (u : Value), (ints (xs.take k))[j]? = some u → w.cell? ((⟨g, 0, none⟩ : Addr).add j) = some u := by
  intro j u hu
  rw [← ints_take] at hu
  refine h.cells rfl j u ?_
  rw [List.getElem?_take] at hu
  split at hu
  · exact hu
  · cases hu
theorem news_drop {w : World} {base : Nat} {e : TypeId} {g cap : Nat} {xs : List Int} (h : w.ownsRow base e 1 (.slice (some ⟨g, 0, none⟩) xs.length cap) xs.length (ints xs)) (k : Nat) : ∀ (j : Nat) (u : Value), (ints (xs.drop k))[j]? = some u → w.cell? ((⟨g, k, none⟩ : Addr).add j) = some u := by
  intro j u hu
  rw [← ints_drop, List.getElem?_drop] at hu
  have hlt : k + j < xs.length := by have := (List.getElem?_eq_some_iff.1 hu).1; simpa using this
  have h1 := h.cellAt (k + j) (by omega)
  rw [hu] at h1
  have e : ((⟨g, k, none⟩ : Addr).add j) = ⟨g, k + j, none⟩ := by unfold Addr.add; split <;> simp_all
  rw [e]; exact h1
def PutOf (base : Nat) (xs : List Int) (n : Int) (w : World) (e : Ending) (w' : World) : Prop :=
  ∃ v, e = .returned v ∧ w'.ownsRow base 3 1 v (putR xs n).length (ints (putR xs n)) ∧ Below w.heap.size w w'

set_option maxHeartbeats 4000000 in
theorem spec_put (base : Nat) (v : Value) (xs : List Int) (n : Int) (w : World) (ho : w.ownsRow base 3 1 v xs.length (ints xs)) (hb : base ≤ w.heap.size) (hl : xs.length ≤ 1048576) :
    Calls Try.prog 63 #[v, .int .i64 n] w (PutOf base xs n w) := by
  obtain ⟨i0, hi, hz0, hz1, hz2⟩ := info_parts Try.infoHIntS
  obtain ⟨a, cp, rfl⟩ := form_of_own ho
  have ho2 := ho.2
  rcases ho2 with ⟨hv, h0⟩ | ⟨g, cap, cur, hv, hg, hgb, hlc, hcm, _⟩
  · simp only [Value.slice.injEq] at hv
    obtain ⟨rfl, _, rfl⟩ := hv
    obtain rfl : xs = [] := List.length_eq_zero_iff.1 h0
    have hR : putR [] n = [n] := by simp [putR, putK]
    unfold PutOf
    rw [hR]
    clear ho h0 hR
    go_enter Try.func63, Try.ntmps63
    go_wp2_with fail
    go_loop [5] (fun iv => iv = .int .i64 0) (fun iv => 0)
    case atStart => rfl
    case round =>
      obtain rfl := hrel
      go_wp2_with (at_builtin; first
        | (refine wpList_append_own_none rfl _ _ 42 rfl w.heap.size 3 i0 1 Try.underlying42 hi _ 0 [] rfl (World.ownsRow_nil _ _ _ _) rfl ?_)
        | (refine wpList_append_own _ rfl _ _ 42 rfl w.heap.size 3 i0 (.int .i64 0) 1 8 Try.underlying42 hi hz0 hz1 hz2 rfl (by decide) _ 0 [] rfl (World.ownsRow_nil _ _ _ _) _ 1 1 [.int .i64 n] rfl rfl (news_one _ _ _) (by simp [Value.oneCell']) (by decide) (by decide) (by simp) ?_))
      intro v' w2 hown hgrow hnil
      have HOW := Lib.hid hown; have HB2 := Lib.hid (Below.grown ((Below.refl w.heap.size w).alloc (Nat.le_refl _) _) hgrow (by simp) (fun j hj => by cases hj)); clear hown hgrow hnil
      go_wp2_with (at_builtin; refine wpList_append_own_none rfl _ _ 42 rfl w.heap.size 3 i0 1 Try.underlying42 hi _ 1 _ rfl HOW.out rfl ?_)
      go_ret
      exact ⟨_, rfl, own_mono HOW.out hb, HB2.out⟩
  · cases hv
    have hgl := (Array.getElem?_eq_some_iff.1 hgb).1
    have HO := Lib.hid ho
    have HRW := Lib.hid (own_rw ho)
    have hc1 : cp ≤ 9223372036854775807 := by unfold maxLen at hcm; omega
    clear ho hgb hcm
    unfold PutOf
    go_enter Try.func63, Try.ntmps63
    go_wp2_with fail
    go_loop [5] (fun iv => ∃ (k : Nat), k ≤ xs.length ∧ iv = .int .i64 (k : Int) ∧ Hid (∀ (j : Nat) (x : Int), j < k → xs[j]? = some x → x < n)) (fun iv => xs.length - (intOf iv).toNat)
    case atStart => exact ⟨0, by omega, rfl, Lib.hid (by intro j x h; omega)⟩
    case round =>
      obtain ⟨k, hk, rfl, HK⟩ := hrel
      by_cases hlk : k < xs.length
      case neg =>
        have hke : k = xs.length := by omega
        have hpk : putK xs n = k := putK_is xs n k hk HK.out (fun x hx => by rw [List.getElem?_eq_none (by omega)] at hx; cases hx)
        have HP : Hid (putR xs n = xs.take k ++ n :: xs.drop k) := Lib.hid (by unfold putR; rw [hpk, List.getElem?_eq_none (by omega), if_neg (by simp)])
        clear hpk hke
        go_wp2_with (at_builtin; refine wpList_append_own _ rfl _ _ 42 rfl w.heap.size 3 i0 (.int .i64 0) 1 8 Try.underlying42 hi hz0 hz1 hz2 rfl (by decide) _ 0 [] rfl (World.ownsRow_nil _ _ _ _) ⟨g, 0, none⟩ k cp (ints (xs.take k)) rfl (by simp; omega) (news_take HO.out _) (ints_oc _) (by unfold maxLen; omega) (by omega) (Nat.le_refl _) ?_)
        intro v1 w1 hown hgrow hnil
        have HO1 := Lib.hid hown; have HB1 := Lib.hid (Below.grown (Below.refl w.heap.size w) hgrow (Nat.le_refl _) (fun j hj => by cases hj)); clear hown hgrow hnil
        try rw [Nat.zero_add] at HO1
        have HOX := Lib.hid (own_later HO.out HB1.out)
        go_wp2_with (at_builtin; refine wpList_append_own _ rfl _ _ 42 rfl w.heap.size 3 i0 (.int .i64 0) 1 8 Try.underlying42 hi hz0 hz1 hz2 rfl (by decide) _ k _ rfl (HO1.out.alloc _) _ 1 1 [.int .i64 n] rfl rfl (news_one _ _ _) (by simp [Value.oneCell']) (by unfold maxLen; omega) (by omega) (Nat.le_trans HB1.out.size (by simp)) ?_)
        intro v2 w2 hown hgrow hnil
        have HO2 := Lib.hid hown; have HB2 := Lib.hid (Below.grown (HB1.out.alloc HB1.out.size _) hgrow (Nat.le_trans HB1.out.size (by simp)) (fun j hj => (HO1.out.lt j hj).1)); clear hown hgrow hnil
        have HOY := Lib.hid (own_later HO.out HB2.out)
        by_cases hcp : cp = k
        case neg =>
          go_wp2_with (at_builtin; refine wpList_append_own _ rfl _ _ 42 rfl w.heap.size 3 i0 (.int .i64 0) 1 8 Try.underlying42 hi hz0 hz1 hz2 rfl (by decide) _ (k + 1) _ rfl HO2.out _ _ _ (ints (xs.drop k)) rfl (by simp) (news_drop HOY.out k) (ints_oc _) (by unfold maxLen; omega) (by omega) HB2.out.size ?_)
          intro v3 w3 hown hgrow hnil
          have HO3 := Lib.hid hown; have HB3 := Lib.hid (Below.grown HB2.out hgrow HB2.out.size (fun j hj => (HO2.out.lt j hj).1)); clear hown hgrow hnil
          go_wp2_with fail
          go_ret
          refine ⟨_, rfl, ?_, HB3.out⟩
          rw [HP.out]
          have h3 := own_mono HO3.out hb
          have e1 : (xs.take k ++ n :: xs.drop k).length = k + 1 + (xs.length - k) := by simp; omega
          have e2 : ints (xs.take k ++ n :: xs.drop k) = ints (xs.take k) ++ [.int .i64 n] ++ ints (xs.drop k) := by simp [ints]
          rw [e1, e2]
          try rw [hdr]
          simpa using h3
        have hdr : xs.drop k = [] := List.drop_eq_nil_of_le (by omega)
        go_wp2_with (at_builtin; refine wpList_append_own _ rfl _ _ 42 rfl w.heap.size 3 i0 (.int .i64 0) 1 8 Try.underlying42 hi hz0 hz1 hz2 rfl (by decide) _ (k + 1) _ rfl HO2.out _ _ _ (ints (xs.drop k)) rfl (by simp) (by rw [hdr]; intro j u hu; simp [ints] at hu) (ints_oc _) (by unfold maxLen; omega) (by omega) HB2.out.size ?_)
        intro v3 w3 hown hgrow hnil
        have HO3 := Lib.hid hown; have HB3 := Lib.hid (Below.grown HB2.out hgrow HB2.out.size (fun j hj => (HO2.out.lt j hj).1)); clear hown hgrow hnil
        go_wp2_with fail
        go_ret
        refine ⟨_, rfl, ?_, HB3.out⟩
        rw [HP.out]
        have h3 := own_mono HO3.out hb
        have e1 : (xs.take k ++ n :: xs.drop k).length = k + 1 + (xs.length - k) := by simp; omega
        have e2 : ints (xs.take k ++ n :: xs.drop k) = ints (xs.take k) ++ [.int .i64 n] ++ ints (xs.drop k) := by simp [ints]
        rw [e1, e2]
        try rw [hdr]
        simpa using h3
      obtain ⟨b, off, x, hx, ha, hbl, hc⟩ := intrw_cell HRW.out hlk
      simp only [Option.some.injEq, Addr.mk.injEq, and_true] at ha
      obtain ⟨rfl, rfl⟩ := ha
      rw [Nat.zero_add] at hc
      by_cases hlt : x < n
      · have HK2 : Hid (∀ (j : Nat) (y : Int), j < k + 1 → xs[j]? = some y → y < n) := Lib.hid fun j y hj hy => by
          rcases Nat.lt_or_ge j k with h | h
          · exact HK.out j y h hy
          · obtain rfl : j = k := by omega
            rw [hx] at hy; cases hy; exact hlt
        clear hx
        go_wp2_with fail
        go_round
        case rel => exact ⟨k + 1, by omega, by go_num, HK2⟩
        case measure => simp [intOf]; omega
      · have hpk : putK xs n = k := putK_is xs n k hk HK.out (fun y hy => by rw [hx] at hy; cases hy; omega)
        by_cases heq : x = n
        · have HP : Hid (putR xs n = xs) := Lib.hid (by unfold putR; rw [hpk, hx, heq, if_pos rfl])
          have hq : (x == n) = true := by simp [heq]
          clear hpk heq hx
          go_wp2_with fail
          go_ret
          exact ⟨_, rfl, by rw [HP.out]; exact HO.out, Below.refl _ _⟩
        · have HP : Hid (putR xs n = xs.take k ++ n :: xs.drop k) := Lib.hid (by unfold putR; rw [hpk, hx, if_neg (fun h => heq (by simpa using h))])
          have hq : (x == n) = false := by simp [heq]
          clear hpk heq hx
          go_wp2_with (at_builtin; refine wpList_append_own _ rfl _ _ 42 rfl w.heap.size 3 i0 (.int .i64 0) 1 8 Try.underlying42 hi hz0 hz1 hz2 rfl (by decide) _ 0 [] rfl (World.ownsRow_nil _ _ _ _) ⟨g, 0, none⟩ k cp (ints (xs.take k)) rfl (by simp; omega) (news_take HO.out _) (ints_oc _) (by unfold maxLen; omega) (by omega) (Nat.le_refl _) ?_)
          intro v1 w1 hown hgrow hnil
          have HO1 := Lib.hid hown; have HB1 := Lib.hid (Below.grown (Below.refl w.heap.size w) hgrow (Nat.le_refl _) (fun j hj => by cases hj)); clear hown hgrow hnil
          try rw [Nat.zero_add] at HO1
          have HOX := Lib.hid (own_later HO.out HB1.out)
          go_wp2_with (at_builtin; refine wpList_append_own _ rfl _ _ 42 rfl w.heap.size 3 i0 (.int .i64 0) 1 8 Try.underlying42 hi hz0 hz1 hz2 rfl (by decide) _ k _ rfl (HO1.out.alloc _) _ 1 1 [.int .i64 n] rfl rfl (news_one _ _ _) (by simp [Value.oneCell']) (by unfold maxLen; omega) (by omega) (Nat.le_trans HB1.out.size (by simp)) ?_)
          intro v2 w2 hown hgrow hnil
          have HO2 := Lib.hid hown; have HB2 := Lib.hid (Below.grown (HB1.out.alloc HB1.out.size _) hgrow (Nat.le_trans HB1.out.size (by simp)) (fun j hj => (HO1.out.lt j hj).1)); clear hown hgrow hnil
          have HOY := Lib.hid (own_later HO.out HB2.out)
          have hcp : ¬ cp = k := by omega
          go_wp2_with (at_builtin; refine wpList_append_own _ rfl _ _ 42 rfl w.heap.size 3 i0 (.int .i64 0) 1 8 Try.underlying42 hi hz0 hz1 hz2 rfl (by decide) _ (k + 1) _ rfl HO2.out _ _ _ (ints (xs.drop k)) rfl (by simp) (news_drop HOY.out k) (ints_oc _) (by unfold maxLen; omega) (by omega) HB2.out.size ?_)
          intro v3 w3 hown hgrow hnil
          have HO3 := Lib.hid hown; have HB3 := Lib.hid (Below.grown HB2.out hgrow HB2.out.size (fun j hj => (HO2.out.lt j hj).1)); clear hown hgrow hnil
          go_wp2_with fail
          go_ret
          refine ⟨_, rfl, ?_, HB3.out⟩
          rw [HP.out]
          have h3 := own_mono HO3.out hb
          have e1 : (xs.take k ++ n :: xs.drop k).length = k + 1 + (xs.length - k) := by simp; omega
          have e2 : ints (xs.take k ++ n :: xs.drop k) = ints (xs.take k) ++ [.int .i64 n] ++ ints (xs.drop k) := by simp [ints]
          rw [e1, e2]
          try rw [hdr]
          simpa using h3

/-! ### ReachedOf -/
def ReachOf (R : List Int × Bool) (w : World) (e : Ending) (w' : World) : Prop :=
  ∃ v, e = .returned (.tuple #[v, .bool R.2]) ∧ w'.ownsRow w.heap.size 3 1 v R.1.length (ints R.1) ∧ Below w.heap.size w w'
theorem fold_take_put (l : List Int) (j : Nat) (y : Int) (h : l[j]? = some y) : (l.take (j + 1)).foldl putR [] = putR ((l.take j).foldl putR []) y := by
  rw [take_next l j y h, List.foldl_append]; rfl
theorem R_Reached_no {m : Mach} (h : R_GoodMachine m = false) : R_ReachedOf m = ([], false) := by unfold R_ReachedOf; rw [if_neg (by rw [h]; simp)]
theorem R_Reached_yes {m : Mach} (h : R_GoodMachine m = true) : R_ReachedOf m = ((ordR m 12).mergeSort (fun x y => decide (x ≤ y)), true) := by unfold R_ReachedOf; rw [if_pos h]

set_option maxHeartbeats 4000000 in
theorem spec_reached (w : World) (cs0 : List Value) (a0 : Mach) (h0 : kMachine.rd w.heap.size w cs0 a0) (ht : kMachine.wt a0 ≤ 1048576) :
    Calls Try.prog 33 #[.agg cs0.toArray] w (ReachOf (R_ReachedOf a0) w) := by
  obtain ⟨ea, ecap, eb, ecap', rfl, hn, he⟩ := Machine_rd h0
  have HG := Lib.hid (fun wx (hb : Below w.heap.size w wx) => spec_GoodMachine wx _ a0 (kMachine_ok.later h0 hb) ht)
  have HN := Lib.hid hn
  have hl1 := (sl_len hn).2; have hl2 := (sl_len he).2
  have HB0 := Lib.hid (box_start w (.cells #[.slice ea a0.1.length ecap, .slice eb a0.2.length ecap'] 28))
  clear hn he h0
  unfold ReachOf
  cases g0 : R_GoodMachine a0 with
  | false =>
    rw [R_Reached_no g0]; rw [g0] at HG
    clear g0
    go_enter Try.func33, Try.ntmps33
    go_wp2_with fail
    refine (HG.out _ ((Below.refl _ _).alloc (Nat.le_refl _) _)).mono ?_
    rintro e w1 ⟨rfl, hb⟩
    have HB1 := Lib.hid (box_step HB0.out hb); clear hb
    go_wp2_with fail
    go_ret2
    exact ⟨_, rfl, World.ownsRow_nil _ _ _ _, box_below HB1.out⟩
  | true =>
    rw [R_Reached_yes g0]
    have hM := good_of g0
    have hinv := ord_inv hM 12
    have hol := hinv.len; have h12 := hM.n12
    rw [← fold_put_sort _ hinv.nd]
    have HOR := Lib.hid (fun wx (hb : Below w.heap.size w wx) => spec_order wx ea eb ecap ecap' a0 (kIntSS_ok.later HN.out hb) hM)
    rw [g0] at HG
    clear g0 hM hinv
    generalize ordR a0 12 = o at *
    go_enter Try.func33, Try.ntmps33
    go_wp2_with fail
    refine (HG.out _ ((Below.refl _ _).alloc (Nat.le_refl _) _)).mono ?_
    rintro e w1 ⟨rfl, hb⟩
    have HB1 := Lib.hid (box_step HB0.out hb); clear hb
    have ma : w1.cell? ⟨w.heap.size, 0, none⟩ = some (.slice ea a0.1.length ecap) := box_cell HB1.out 0
    have mb : w1.cell? ⟨w.heap.size, 1, none⟩ = some (.slice eb a0.2.length ecap') := box_cell HB1.out 1
    go_wp2_with fail
    refine (HOR.out _ (box_below HB1.out)).mono ?_
    rintro e w2 ⟨v, rfl, ho, hb⟩
    have HBW := Lib.hid ((box_below HB1.out).trans (hb.mono (box_below HB1.out).size)); clear hb
    obtain ⟨a, cp, rfl⟩ := form_of_own ho
    have HRW := Lib.hid (own_rw ho)
    clear ho
    go_wp2_with fail
    go_loopw [4, 13] (fun ov jv wr => ∃ (j : Nat) (v : Value), j ≤ o.length ∧ jv = .int .i64 (j : Int) ∧ ov = v ∧ Hid (wr.ownsRow w.heap.size 3 1 v ((o.take j).foldl putR []).length (ints ((o.take j).foldl putR []))) ∧ Hid (Below w2.heap.size w2 wr)) (fun _ jv _ => o.length - (intOf jv).toNat)
    case atStart => exact ⟨0, _, by omega, rfl, rfl, World.ownsRow_nil _ _ _ _, Below.refl _ _⟩
    case round =>
      obtain ⟨j, v, hjl, rfl, rfl, HO, HB⟩ := hrel
      by_cases hlt : j < o.length
      case neg =>
        obtain rfl : j = o.length := by omega
        rw [List.take_length] at HO
        go_wp2_with fail
        go_ret2
        exact ⟨_, rfl, HO.out, HBW.out.trans (HB.out.mono HBW.out.size)⟩
      obtain ⟨b, off, y, hy, rfl, hbl, hc⟩ := intrw_cell HRW.out hlt
      have c1 : wr.cell? ⟨b, off + j, none⟩ = some (.int .i64 y) := below_cellk HB.out hc hbl
      have HY := Lib.hid (fold_take_put o j y hy)
      have hfl := fold_len (o.take j) []
      have hs1 : w.heap.size ≤ wr.heap.size := Nat.le_trans HBW.out.size HB.out.size
      have HPT := Lib.hid (fun (hl : ((o.take j).foldl putR []).length ≤ 1048576) => spec_put w.heap.size _ ((o.take j).foldl putR []) y wr HO.out hs1 hl)
      have hll : ((o.take j).foldl putR []).length ≤ 1048576 := by simp at hfl; omega
      clear hc hy hfl HO
      unfold PutOf at HPT
      rw [← HY.out] at HPT
      generalize (o.take j).foldl putR [] = p at *
      go_wp2_with fail
      refine (HPT.out hll).mono ?_
      rintro e w3 ⟨v3, rfl, ho3, hb3⟩
      have HO3 := Lib.hid ho3; have HB3 := Lib.hid (HB.out.trans (hb3.mono HB.out.size)); clear ho3 hb3 HPT
      go_wp2_with fail
      go_roundw
      case rel => exact ⟨j + 1, _, by omega, by go_num, rfl, HO3, HB3⟩
      case measure => simp [intOf]; omega

set_option maxHeartbeats 8000000 in
theorem impl_reached (w : World) (cs0 : List Value) (a0 : Mach) (h0 : kMachine.rd w.heap.size w cs0 a0) (ht : kMachine.wt a0 ≤ 1048576) :
    Calls Try.prog 34 #[.agg cs0.toArray] w (ReachOf (R_ReachedOf a0) w) := by
  obtain ⟨i0, hi, hz0, hz1, hz2⟩ := info_parts Try.infoHIntS
  obtain ⟨ea, ecap, eb, ecap', rfl, hn, he⟩ := Machine_rd h0
  have HG := Lib.hid (fun wx (hb : Below w.heap.size w wx) => impl_GoodMachine wx _ a0 (kMachine_ok.later h0 hb) ht)
  have HN := Lib.hid hn
  have hl1 := (sl_len hn).2; have hl2 := (sl_len he).2
  have hlc := hl1
  have HB0 := Lib.hid (box_start w (.cells #[.slice ea a0.1.length ecap, .slice eb a0.2.length ecap'] 28))
  clear hn he h0
  unfold ReachOf
  cases g0 : R_GoodMachine a0 with
  | false =>
    rw [R_Reached_no g0]; rw [g0] at HG
    clear g0
    go_enter Try.func34, Try.ntmps34
    go_wp2_with fail
    refine (HG.out _ ((Below.refl _ _).alloc (Nat.le_refl _) _)).mono ?_
    rintro e w1 ⟨rfl, hb⟩
    have HB1 := Lib.hid (box_step HB0.out hb); clear hb
    go_wp2_with fail
    go_ret2
    exact ⟨_, rfl, World.ownsRow_nil _ _ _ _, box_below HB1.out⟩
  | true =>
  rw [R_Reached_yes g0]
  rw [g0] at HG
  have hm := good_of g0
  have h12 := hm.n12
  have HM := Lib.hid hm
  have HINV := Lib.hid (ord_inv hm)
  have HONE := Lib.hid (ord_one hm)
  have HML := Lib.hid (fun xs : List Int => List.length_mergeSort (le := fun x y : Int => decide (x ≤ y)) xs)
  have HSRT := Lib.hid (fun g cp xs wx => Try.slices_Sort_int g 0 cp xs wx)
  clear g0 hm
  go_enter Try.func34, Try.ntmps34
  go_wp2_with fail
  refine (HG.out _ ((Below.refl _ _).alloc (Nat.le_refl _) _)).mono ?_
  rintro e w1 ⟨rfl, hb⟩
  have HB1 := Lib.hid (box_step HB0.out hb); clear hb
  have HBW := Lib.hid (box_below HB1.out)
  have HMA : Hid (w1.cell? ⟨w.heap.size, 0, none⟩ = some (.slice ea a0.1.length ecap)) := Lib.hid (box_cell HB1.out 0)
  go_wp2_with fail
  go_loopw [4, 5] (fun ov iv wr => ∃ (i : Nat) (v : Value), i ≤ 12 ∧ i ≤ (ordR a0 i).length ∧ iv = .int .i64 (i : Int) ∧ ov = v ∧ Hid (wr.ownsRow w1.heap.size 3 1 v (ordR a0 i).length (ints (ordR a0 i))) ∧ Hid (Below w1.heap.size w1 wr)) (fun _ iv _ => 12 - (intOf iv).toNat)
  case atStart => exact ⟨0, _, by omega, by simp [ordR], rfl, rfl, Lib.hid (own_one _ _ _ rfl), (Below.refl _ _).alloc (Nat.le_refl _) _⟩
  case round =>
    obtain ⟨i, v, hi12, hil, rfl, rfl, HO, HB⟩ := hrel
    have hinv := HINV.out i
    have hle := hinv.len
    have hl1 := hinv.one
    by_cases hlt : i < (ordR a0 i).length
    case neg =>
      have HE := Lib.hid (ord_end HM.out i hi12 (by omega))
      have HO' : Hid (wr.ownsRow w1.heap.size 3 1 u4 (ordR a0 12).length (ints (ordR a0 12))) := Lib.hid (by rw [HE.out]; exact HO.out)
      clear hinv
      obtain ⟨g, cp, rfl, hg1, hg2⟩ := HO.out.form (by omega)
      have HOF := HO.out
      rcases HOF.2 with ⟨hv, _⟩ | ⟨g', cp', cur, hv, hgb, hhb, hn1, hn2, hn3, hn4⟩
      · cases hv
      cases hv
      have HH := Lib.hid (holds_of_blockI (ss := ordR a0 i) hhb (by simpa [ints] using hn4))
      have HSO := Lib.hid (fun n os => ownsRow_sortedI (w := wr) (n := n) (os := os) (ss := ordR a0 i) (ts := (ordR a0 i).mergeSort fun x y => decide (x ≤ y)) (HML.out _) hgb hhb hn1 hn2 hn3)
      have HSG := Lib.hid (fun n os => grownBy_sortedI (w := wr) (g := g) (n := n) (os := os) ((ordR a0 i).mergeSort fun x y => decide (x ≤ y)).toArray)
      have HXX : Hid (((ordR a0 i).mergeSort fun x y => decide (x ≤ y)).length = (ordR a0 i).length) := Lib.hid (HML.out _)
      clear HOF hhb hn1 hn2 hn3 hn4 HO HO' HINV HONE
      generalize ordR a0 i = xs at *
      go_wp2_with (go_at_call 65; refine (HSRT.out g cp xs _ HH.out hg2 (by omega)).mono ?_; rintro e w' ⟨rfl, nn, os, hw'⟩; have HS1 := Lib.hid (HSO.out nn os); have HS2 := Lib.hid (HSG.out nn os); rw [← hw'] at HS1 HS2; clear hw' HSO HSG HSRT)
      go_ret2
      have hs := HS1.out
      have hbb := Below.grown HB.out HS2.out HB.out.size (fun j hj => by cases hj; exact hg1)
      refine ⟨_, rfl, ?_, HBW.out.trans (hbb.mono HBW.out.size)⟩
      rw [HE.out, HXX.out]
      exact own_mono hs HBW.out.size
    obtain ⟨g, cp, rfl, hg1, hg2⟩ := HO.out.form (by omega)
    have hk : (ordR a0 i)[i]? = some ((ordR a0 i).getD i 0) := by simp [List.getD, hlt]
    have hr := hinv.rg _ (List.mem_of_getElem? hk)
    obtain ⟨r1, r2, r3⟩ := row_in HM.out hr.1 hr.2
    have HNX := Lib.hid (ord_next hlt)
    have c0 : wr.cell? ⟨g, i, none⟩ = some (.int .i64 ((ordR a0 i).getD i 0)) := by rw [HO.out.cellAt i (by omega), ints_at _ _ hlt]
    have HIV := Lib.hid hinv
    clear hinv hk
    generalize (ordR a0 i).getD i 0 = k0 at *
    obtain ⟨u, b, off, hu, hea, hbl, hc⟩ := sl_one kIntS_ok rfl HN.out r1
    obtain ⟨al, acap, hu2⟩ := kSl_form hu
    simp only [List.cons.injEq, and_true] at hu2
    subst hu2
    have c1 : wr.cell? ⟨b, off + k0.toNat, none⟩ = some (.slice al (rowAt a0 k0).length acap) := below_cellk (HBW.out.trans (HB.out.mono HBW.out.size)) hc hbl
    have ma : wr.cell? ⟨w.heap.size, 0, none⟩ = some (.slice (some ⟨b, off, none⟩) a0.1.length ecap) := (below_later HB.out HMA.out).trans (by rw [hea])
    have HR3 := Lib.hid r3; have HL3 := Lib.hid r2
    have HU := Lib.hid hu
    have hk0 := hr.1; have hk1 := hr.2
    have hwrap : (rowAt a0 k0).length ≤ 3 := by omega
    clear r1 r2 r3 hu hc hr hea
    generalize rowAt a0 k0 = l at *
    obtain ⟨wo, rfl⟩ : ∃ z : World, z = wr := ⟨_, rfl⟩
    go_wp2_with fail
    go_quiet (fail)
    go_wp2_with fail
    go_loopw [4, 27] (fun ov jv ws => ∃ (j : Nat) (v : Value), j ≤ l.length ∧ jv = .int .i64 (j : Int) ∧ ov = v ∧ Hid (ws.ownsRow w1.heap.size 3 1 v ((l.take j).foldl visit (ordR a0 i)).length (ints ((l.take j).foldl visit (ordR a0 i)))) ∧ Hid (Below w1.heap.size w1 ws)) (fun _ jv _ => l.length - (intOf jv).toNat)
    case atStart => exact ⟨0, _, by omega, rfl, rfl, own_drewN HO.out _, below_drewN HB.out _⟩
    case round =>
      obtain ⟨j, v, hjl, rfl, rfl, HOJ, HBJ⟩ := hrel
      by_cases hlj : j < l.length
      case neg =>
        obtain rfl : j = l.length := by omega
        rw [List.take_length, ← HNX.out] at HOJ
        have hi2 := HINV.out (i + 1)
        have hl2 := HONE.out i
        clear hi2
        go_wp2_with fail
        go_roundw
        case rel => exact ⟨i + 1, _, by omega, by omega, by go_num, rfl, HOJ, HBJ⟩
        case measure => simp [intOf]; omega
      obtain ⟨y, hy⟩ : ∃ y, l[j]? = some y := ⟨l[j], List.getElem?_eq_getElem hlj⟩
      have HY := Lib.hid (fold_take l (ordR a0 i) j y hy)
      have hiv : OInv a0.1.length ((l.take j).foldl visit (ordR a0 i)) := HIV.out.fold fun z hz => HR3.out z (List.mem_of_mem_take hz)
      have hol := hiv.len
      have ho1 := hiv.one
      have HWRB := Lib.hid (HBW.out.trans (HBJ.out.mono HBW.out.size))
      obtain ⟨u2, b2, off2, hu2, rfl, hbl2, hc2⟩ := sl_one kInt_ok rfl HU.out hy
      obtain ⟨hu2, hwf⟩ := hu2
      simp only [List.cons.injEq, and_true] at hu2
      subst hu2
      have c2 : wr.cell? ⟨b2, off2 + j, none⟩ = some (.int .i64 y) := below_cellk HWRB.out hc2 hbl2
      clear hy hiv hc2
      generalize (l.take j).foldl visit (ordR a0 i) = o at *
      obtain ⟨g2, cp2, rfl, hg3, hg4⟩ := HOJ.out.form (by omega)
      have HRW := Lib.hid (own_rw HOJ.out)
      have HC3 : Hid (o.length + 1 ≤ maxLen) := Lib.hid (by unfold maxLen; omega)
      have HC4 : Hid ((o.length + 1) * 8 ≤ 140737488355328) := Lib.hid (by omega)
      cases hcb : hasI o y with
      | true =>
        have HV : Hid ((l.take (j + 1)).foldl visit (ordR a0 i) = o) := Lib.hid (by rw [HY.out]; unfold visit; rw [if_pos hcb])
        have HCB := Lib.hid hcb; clear hcb
        go_wp2_with (go_at_call 64; refine (impl_has _ _ o y _ HRW.out (by omega)).mono ?_; rw [HCB.out]; rintro e w' ⟨rfl, rfl⟩)
        go_roundw
        case rel => exact ⟨j + 1, _, by omega, by go_num, rfl, by rw [HV.out]; exact HOJ, HBJ⟩
        case measure => simp [intOf]; omega
      | false =>
        have HV : Hid ((l.take (j + 1)).foldl visit (ordR a0 i) = o ++ [y]) := Lib.hid (by rw [HY.out]; unfold visit; rw [if_neg (by rw [hcb]; simp)])
        have HCB := Lib.hid hcb; clear hcb
        go_wp2_with (first | (go_at_call 64; refine (impl_has _ _ o y _ HRW.out (by omega)).mono ?_; rw [HCB.out]; rintro e w' ⟨rfl, rfl⟩) | (at_builtin; refine wpList_append_own _ rfl _ _ 42 rfl _ 3 i0 (.int .i64 0) 1 8 Try.underlying42 hi hz0 hz1 hz2 rfl (by decide) _ o.length _ rfl (HOJ.out.alloc _) _ 1 1 [.int .i64 y] rfl rfl (news_one _ _ _) (by simp [Value.oneCell']) HC3.out HC4.out (Nat.le_trans HBJ.out.size (by simp)) ?_))
        intro v' w2 hown hgrow hnil
        have HBG := Lib.hid (Below.grown (HBJ.out.alloc HBJ.out.size _) hgrow (Nat.le_trans HBJ.out.size (by simp)) (fun j hj => (HOJ.out.lt j hj).1))
        have HOW := Lib.hid hown; clear hown hgrow hnil
        go_wp2_with fail
        go_roundw
        case rel => exact ⟨j + 1, _, by omega, by go_num, rfl, Lib.hid (by rw [HV.out, ints_one, List.length_append]; simpa using HOW.out), HBG⟩
        case measure => simp [intOf]; omega

theorem sorted_wf {m : Mach} : ∀ n ∈ (R_ReachedOf m).1, (Lit.int .i64 n).wf = true := by
  cases g : R_GoodMachine m with
  | false => rw [R_Reached_no g]; simp
  | true =>
    rw [R_Reached_yes g]
    intro n hn
    have hM := good_of g
    have := (ord_inv hM 12).rg n (by simpa using hn)
    have := hM.n12
    exact WalkArith.wf_i64 (by omega)
theorem reach_made {R : List Int × Bool} {w w' : World} {e : Ending} (hw : ∀ p ∈ R.1, (Lit.int .i64 p).wf = true) (h : ReachOf R w e w') : Made kIntS (fun cs => .tuple #[one cs, .bool R.2]) R.1 w e w' := by
  obtain ⟨v, rfl, ho, hb⟩ := h
  exact ⟨[v], v.ownBlock.toList, rfl, ints_own ho hw, by cases v.ownBlock <;> simp, fun b hm => (ho.lt b (by simpa using hm)).1, hb⟩
theorem ints_cnt (xs : List Int) : kIntS.cnt xs = xs.length := by
  show sumL kInt.cnt xs = _
  induction xs with
  | nil => rfl
  | cons x r ih => rw [sumL, ih, List.length_cons]; show 1 + _ = _; omega
theorem R_ReachedOf_ok (m : Mach) (_h : kMachine.wt m ≤ 1048576) : kIntS.cnt (R_ReachedOf m).1 ≤ 16777215 := by
  rw [ints_cnt]
  cases g : R_GoodMachine m with
  | false => rw [R_Reached_no g]; simp
  | true =>
    rw [R_Reached_yes g]
    have hM := good_of g
    have := (ord_inv hM 12).len
    have := hM.n12
    simp; omega
theorem spec_ReachedOf (w : World) (cs0 : List Value) (a0 : Mach) (h0 : kMachine.rd w.heap.size w cs0 a0) (ht : kMachine.wt a0 ≤ 1048576) :
    Calls Try.prog 33 #[.agg cs0.toArray] w (Made kIntS (fun cs => .tuple #[one cs, .bool (R_ReachedOf a0).2]) (R_ReachedOf a0).1 w) :=
  (spec_reached w cs0 a0 h0 ht).mono fun _ _ h => reach_made sorted_wf h
theorem impl_ReachedOf (w : World) (cs0 : List Value) (a0 : Mach) (h0 : kMachine.rd w.heap.size w cs0 a0) (ht : kMachine.wt a0 ≤ 1048576) :
    Calls Try.prog 34 #[.agg cs0.toArray] w (Made kIntS (fun cs => .tuple #[one cs, .bool (R_ReachedOf a0).2]) (R_ReachedOf a0).1 w) :=
  (impl_reached w cs0 a0 h0 ht).mono fun _ _ h => reach_made sorted_wf h
end Go.Proofs.Ytedjahinlpehgaa
