/- The contracts of ProveGrew, the program's and the reference's. -/
import Derived.Test.YtdhkagabkhepgaaProve2
namespace Go.Proofs.Ytdhkagabkhepgaa
set_option linter.unusedVariables false
open Go.ChangeShapes Go.WideShapes Go.ChangeAt Go.RowKit

def pgrL : Nat → List ByteArray → Nat → Bool → List Int
  | 0, _, _, _ => []
  | m + 1, ss, k, wh =>
    if k = ss.length then (if wh then [] else [rootL ss])
    else if k ≤ splitN ss.length then pgrL m (ss.take (splitN ss.length)) k wh ++ [rootL (ss.drop (splitN ss.length))]
    else pgrL m (ss.drop (splitN ss.length)) (k - splitN ss.length) false ++ [rootL (ss.take (splitN ss.length))]
theorem pgrL_len : ∀ (m : Nat) (ss : List ByteArray) (k : Nat) (wh : Bool), (pgrL m ss k wh).length ≤ m
  | 0, _, _, _ => Nat.le_refl _
  | m + 1, ss, k, wh => by
    unfold pgrL
    by_cases h : k = ss.length
    · rw [if_pos h]; cases wh <;> simp
    · rw [if_neg h]
      by_cases h2 : k ≤ splitN ss.length
      · rw [if_pos h2]; have := pgrL_len m (ss.take (splitN ss.length)) k wh; simp; omega
      · rw [if_neg h2]; have := pgrL_len m (ss.drop (splitN ss.length)) (k - splitN ss.length) false; simp; omega

set_option maxHeartbeats 4000000 in
theorem impl_proveGrew (m : Nat) : ∀ (a : Option Addr) (cap n k : Nat) (wh : Bool) (ss : List ByteArray) (w : World), ss.length = n → n ≤ m → 1 ≤ k → k ≤ n → Rw w a (strs ss) → n ≤ cap → cap ≤ 9223372036854775807 → n ≤ 1048576 → m ≤ 1048576 → (∀ s ∈ ss, s.size ≤ 9223372036854775807) →
    Calls Try.prog 74 #[.slice a n cap, .int .i64 (k : Int), .bool wh] w (MadeInts (pgrL m ss k wh) w) := by
  induction m with
  | zero => intro a cap n k wh ss w h1 h2 h3; omega
  | succ m ih =>
    intro a cap n k wh ss w hl hm h1 hk hrow hcap hcm hn hmm hsz
    by_cases hn1 : k = n
    · subst hn1
      cases wh with
      | true =>
        have hf : pgrL (m + 1) ss k true = [] := by rw [pgrL, if_pos hl.symm]; rfl
        rw [hf]
        clear hrow ih hf hl hsz
        go_enter Try.func74, Try.ntmps74
        go_wp2_with fail
        go_ret
        exact ⟨_, rfl, World.ownsRow_nil _ _ _ _, Below.refl _ _⟩
      | false =>
        have hf : pgrL (m + 1) ss k false = [rootL ss] := by rw [pgrL, if_pos hl.symm]; rfl
        rw [hf]
        have HRT := Lib.hid (impl_root k a cap k ss w hl (Nat.le_refl _) hrow hcap hcm hn hsz)
        clear hrow ih hf hl hsz
        go_enter Try.func74, Try.ntmps74
        go_wp2_with fail
        refine HRT.out.mono ?_
        rintro e w' ⟨rfl, n1, rfl⟩
        go_wp2_with fail
        go_ret
        exact ⟨_, rfl, World.ownsRow_lit (w.drewN n1) #[.int .i64 (rootL ss)] 1 (Nat.le_refl _) (by decide) rfl, (below_drewN (Below.refl w.heap.size w) n1).alloc (Nat.le_refl _) _⟩
    obtain ⟨i0, hi, hz0, hz1, hz2⟩ := info_parts Try.infoInt
    subst hl
    have k1 := splitN_pos ss.length
    have k2 := splitN_lt ss.length (by omega)
    obtain ⟨b, off, rfl, hbl, hc⟩ := hrow.at (strs_ne (k := 0) (by omega))
    clear hc
    have hs := impl_split ss.length w (by omega)
    have hne1 : ((k : Int) == (ss.length : Int)) = false := beq_eq_false_iff_ne.2 (by omega)
    by_cases hlt : k ≤ splitN ss.length
    · rw [pgrL, if_neg hn1, if_pos hlt]
      have hlen := pgrL_len m (ss.take (splitN ss.length)) k wh
      have hi1 := fun (wx : World) (hw : Rw wx (some ⟨b, off, none⟩) (strs ss)) => ih (some ⟨b, off, none⟩) cap (splitN ss.length) k wh (ss.take (splitN ss.length)) wx (by rw [List.length_take]; omega) (by omega) h1 hlt (by have := hw.take (splitN ss.length); rwa [strs, ← List.map_take] at this) (by omega) hcm (by omega) (by omega) (fun s hs => hsz s (List.mem_of_mem_take hs))
      have hi2 := fun (wx : World) (hw : Rw wx (some ⟨b, off, none⟩) (strs ss)) => impl_root (ss.length - splitN ss.length) (some ⟨b, off + splitN ss.length, none⟩) (cap - splitN ss.length) (ss.length - splitN ss.length) (ss.drop (splitN ss.length)) wx (by rw [List.length_drop]) (by omega) (by have := hw.drop (splitN ss.length); rwa [strs, ← List.map_drop] at this) (by omega) (by omega) (by omega) (fun s hs => hsz s (List.mem_of_mem_drop hs))
      clear ih hsz
      generalize pgrL m (ss.take (splitN ss.length)) k wh = P at *
      generalize rootL (ss.drop (splitN ss.length)) = x at *
      generalize splitN ss.length = q at *
      have HI1 := Lib.hid hi1; have HI2 := Lib.hid hi2; have HR := Lib.hid hrow; have HS := Lib.hid hs; have HC1 : Hid (P.length + 1 ≤ maxLen) := by show P.length + 1 ≤ maxLen; unfold maxLen; omega
      have HC2 : Hid ((P.length + 1) * 8 ≤ 140737488355328) := by show (P.length + 1) * 8 ≤ 140737488355328; omega
      have hq1 : q ≤ cap := by omega
      have hq2 : q < cap := by omega
      have hq3 : ¬ q = cap := by omega
      have hq4 : ¬ cap = q := by omega
      have hq5 : q ≤ ss.length := by omega
      clear hi1 hi2 hrow hs hlen hn1
      go_enter Try.func74, Try.ntmps74
      go_wp2_with fail
      refine HS.out.mono ?_
      rintro e w' ⟨rfl, rfl⟩
      go_wp2_with fail
      go_region_law (first | (go_simp; go_at_call 74; (with_reducible refine (HI1.out _ HR.out.drew).mono ?_); rintro e w1 ⟨v1, rfl, ho1, hb1⟩; go_must (have HO1 : Hid (w1.ownsRow w.heap.size 3 1 v1 P.length (ints P)) := ho1; have HB1 : Hid (Below w.heap.size w w1) := below_undrew hb1; clear ho1 hb1)) | (go_simp; go_at_call 58; (with_reducible refine (HI2.out _ (HR.out.below HB1.out)).mono ?_); rintro e w2 ⟨rfl, n2, rfl⟩) | (refine step_append_lies _ rfl (.tmp 27) (.tmp 32) 35 rfl w.heap.size 3 i0 (.int .i64 0) 1 8 Try.underlying35 hi hz0 hz1 hz2 rfl (by decide) v1 P.length (ints P) rfl (HO1.out.alloc _) _ 1 1 [.int .i64 x] rfl rfl (news_one _ _ _) (by simp [Value.oneCell']) (by omega) HC1.out HC2.out (Nat.le_trans HB1.out.size (by simp)) _ rfl ?_; intro g cap' w3 hown hgrow hat hg; have HO3 := Lib.hid hown; have HG3 := Lib.hid hgrow; have HA3 := Lib.hid hat; clear hown hgrow hat hg))
      go_wp2_with fail
      go_ret
      refine ⟨_, rfl, by rw [ints_snoc, List.length_append]; exact HO3.out, ?_⟩
      exact Below.grown (((below_drewN HB1.out _).alloc HB1.out.size _)) HG3.out (Nat.le_trans HB1.out.size (by simp)) (fun j hj => (HO1.out.lt j hj).1)
    · rw [pgrL, if_neg hn1, if_neg hlt]
      have hlen := pgrL_len m (ss.drop (splitN ss.length)) (k - splitN ss.length) false
      have hi1 := fun (wx : World) (hw : Rw wx (some ⟨b, off, none⟩) (strs ss)) => ih (some ⟨b, off + splitN ss.length, none⟩) (cap - splitN ss.length) (ss.length - splitN ss.length) (k - splitN ss.length) false (ss.drop (splitN ss.length)) wx (by rw [List.length_drop]) (by omega) (by omega) (by omega) (by have := hw.drop (splitN ss.length); rwa [strs, ← List.map_drop] at this) (by omega) (by omega) (by omega) (by omega) (fun s hs => hsz s (List.mem_of_mem_drop hs))
      have hi2 := fun (wx : World) (hw : Rw wx (some ⟨b, off, none⟩) (strs ss)) => impl_root (splitN ss.length) (some ⟨b, off, none⟩) cap (splitN ss.length) (ss.take (splitN ss.length)) wx (by rw [List.length_take]; omega) (by omega) (by have := hw.take (splitN ss.length); rwa [strs, ← List.map_take] at this) (by omega) hcm (by omega) (fun s hs => hsz s (List.mem_of_mem_take hs))
      clear ih hsz
      rw [show (((k - splitN ss.length : Nat)) : Int) = (k : Int) - ((splitN ss.length : Nat) : Int) from by omega] at hi1
      generalize pgrL m (ss.drop (splitN ss.length)) (k - splitN ss.length) false = P at *
      generalize rootL (ss.take (splitN ss.length)) = x at *
      generalize splitN ss.length = q at *
      have HI1 := Lib.hid hi1; have HI2 := Lib.hid hi2; have HR := Lib.hid hrow; have HS := Lib.hid hs; have HC1 : Hid (P.length + 1 ≤ maxLen) := by show P.length + 1 ≤ maxLen; unfold maxLen; omega
      have HC2 : Hid ((P.length + 1) * 8 ≤ 140737488355328) := by show (P.length + 1) * 8 ≤ 140737488355328; omega
      have hq1 : q ≤ cap := by omega
      have hq2 : q < cap := by omega
      have hq3 : ¬ q = cap := by omega
      have hq4 : ¬ cap = q := by omega
      have hq5 : q ≤ ss.length := by omega
      clear hi1 hi2 hrow hs hlen hn1
      have hw1 : IntKind.i64.wrap ((k : Int) - (q : Int)) = (k : Int) - (q : Int) := IntWalk.i64_in _ (by omega)
      go_enter Try.func74, Try.ntmps74
      go_wp2_with fail
      refine HS.out.mono ?_
      rintro e w' ⟨rfl, rfl⟩
      go_wp2_with fail
      go_region_law (first | (go_simp; go_at_call 74; (with_reducible refine (HI1.out _ HR.out.drew).mono ?_); rintro e w1 ⟨v1, rfl, ho1, hb1⟩; go_must (have HO1 : Hid (w1.ownsRow w.heap.size 3 1 v1 P.length (ints P)) := ho1; have HB1 : Hid (Below w.heap.size w w1) := below_undrew hb1; clear ho1 hb1)) | (go_simp; go_at_call 58; (with_reducible refine (HI2.out _ (HR.out.below HB1.out)).mono ?_); rintro e w2 ⟨rfl, n2, rfl⟩) | (refine step_append_lies _ rfl (.tmp 40) (.tmp 45) 35 rfl w.heap.size 3 i0 (.int .i64 0) 1 8 Try.underlying35 hi hz0 hz1 hz2 rfl (by decide) v1 P.length (ints P) rfl (HO1.out.alloc _) _ 1 1 [.int .i64 x] rfl rfl (news_one _ _ _) (by simp [Value.oneCell']) (by omega) HC1.out HC2.out (Nat.le_trans HB1.out.size (by simp)) _ rfl ?_; intro g cap' w3 hown hgrow hat hg; have HO3 := Lib.hid hown; have HG3 := Lib.hid hgrow; have HA3 := Lib.hid hat; clear hown hgrow hat hg))
      go_wp2_with fail
      go_ret
      refine ⟨_, rfl, by rw [ints_snoc, List.length_append]; exact HO3.out, ?_⟩
      exact Below.grown (((below_drewN HB1.out _).alloc HB1.out.size _)) HG3.out (Nat.le_trans HB1.out.size (by simp)) (fun j hj => (HO1.out.lt j hj).1)
set_option maxHeartbeats 4000000 in
theorem spec_proveGrew (m : Nat) : ∀ (a : Option Addr) (cap n k : Nat) (wh : Bool) (ss : List ByteArray) (w : World), ss.length = n → n ≤ m → 1 ≤ k → k ≤ n → Rw w a (strs ss) → n ≤ cap → cap ≤ 9223372036854775807 → n ≤ 1048576 → m ≤ 1048576 → (∀ s ∈ ss, s.size ≤ 9223372036854775807) →
    Calls Try.prog 73 #[.slice a n cap, .int .i64 (k : Int), .bool wh] w (MadeInts (pgrL m ss k wh) w) := by
  induction m with
  | zero => intro a cap n k wh ss w h1 h2 h3; omega
  | succ m ih =>
    intro a cap n k wh ss w hl hm h1 hk hrow hcap hcm hn hmm hsz
    by_cases hn1 : k = n
    · subst hn1
      cases wh with
      | true =>
        have hf : pgrL (m + 1) ss k true = [] := by rw [pgrL, if_pos hl.symm]; rfl
        rw [hf]
        clear hrow ih hf hl hsz
        go_enter Try.func73, Try.ntmps73
        go_wp2_with fail
        go_ret
        exact ⟨_, rfl, World.ownsRow_nil _ _ _ _, Below.refl _ _⟩
      | false =>
        have hf : pgrL (m + 1) ss k false = [rootL ss] := by rw [pgrL, if_pos hl.symm]; rfl
        rw [hf]
        have HRT := Lib.hid (spec_root k a cap k ss w hl (Nat.le_refl _) hrow hcap hcm hn hsz)
        clear hrow ih hf hl hsz
        go_enter Try.func73, Try.ntmps73
        go_wp2_with fail
        refine HRT.out.mono ?_
        rintro e w' ⟨rfl, n1, rfl⟩
        go_wp2_with fail
        go_ret
        exact ⟨_, rfl, World.ownsRow_lit (w.drewN n1) #[.int .i64 (rootL ss)] 1 (Nat.le_refl _) (by decide) rfl, (below_drewN (Below.refl w.heap.size w) n1).alloc (Nat.le_refl _) _⟩
    obtain ⟨i0, hi, hz0, hz1, hz2⟩ := info_parts Try.infoInt
    subst hl
    have k1 := splitN_pos ss.length
    have k2 := splitN_lt ss.length (by omega)
    obtain ⟨b, off, rfl, hbl, hc⟩ := hrow.at (strs_ne (k := 0) (by omega))
    clear hc
    have hs := spec_split ss.length w (by omega)
    have hne1 : ((k : Int) == (ss.length : Int)) = false := beq_eq_false_iff_ne.2 (by omega)
    by_cases hlt : k ≤ splitN ss.length
    · rw [pgrL, if_neg hn1, if_pos hlt]
      have hlen := pgrL_len m (ss.take (splitN ss.length)) k wh
      have hi1 := fun (wx : World) (hw : Rw wx (some ⟨b, off, none⟩) (strs ss)) => ih (some ⟨b, off, none⟩) cap (splitN ss.length) k wh (ss.take (splitN ss.length)) wx (by rw [List.length_take]; omega) (by omega) h1 hlt (by have := hw.take (splitN ss.length); rwa [strs, ← List.map_take] at this) (by omega) hcm (by omega) (by omega) (fun s hs => hsz s (List.mem_of_mem_take hs))
      have hi2 := fun (wx : World) (hw : Rw wx (some ⟨b, off, none⟩) (strs ss)) => spec_root (ss.length - splitN ss.length) (some ⟨b, off + splitN ss.length, none⟩) (cap - splitN ss.length) (ss.length - splitN ss.length) (ss.drop (splitN ss.length)) wx (by rw [List.length_drop]) (by omega) (by have := hw.drop (splitN ss.length); rwa [strs, ← List.map_drop] at this) (by omega) (by omega) (by omega) (fun s hs => hsz s (List.mem_of_mem_drop hs))
      clear ih hsz
      generalize pgrL m (ss.take (splitN ss.length)) k wh = P at *
      generalize rootL (ss.drop (splitN ss.length)) = x at *
      generalize splitN ss.length = q at *
      have HI1 := Lib.hid hi1; have HI2 := Lib.hid hi2; have HR := Lib.hid hrow; have HS := Lib.hid hs; have HC1 : Hid (P.length + 1 ≤ maxLen) := by show P.length + 1 ≤ maxLen; unfold maxLen; omega
      have HC2 : Hid ((P.length + 1) * 8 ≤ 140737488355328) := by show (P.length + 1) * 8 ≤ 140737488355328; omega
      have hq1 : q ≤ cap := by omega
      have hq2 : q < cap := by omega
      have hq3 : ¬ q = cap := by omega
      have hq4 : ¬ cap = q := by omega
      have hq5 : q ≤ ss.length := by omega
      clear hi1 hi2 hrow hs hlen hn1
      go_enter Try.func73, Try.ntmps73
      go_wp2_with fail
      refine HS.out.mono ?_
      rintro e w' ⟨rfl, rfl⟩
      go_wp2_with fail
      go_region_law (first | (go_simp; go_at_call 73; (with_reducible refine (HI1.out _ HR.out.drew).mono ?_); rintro e w1 ⟨v1, rfl, ho1, hb1⟩; go_must (have HO1 : Hid (w1.ownsRow w.heap.size 3 1 v1 P.length (ints P)) := ho1; have HB1 : Hid (Below w.heap.size w w1) := below_undrew hb1; clear ho1 hb1)) | (go_simp; go_at_call 56; (with_reducible refine (HI2.out _ (HR.out.below HB1.out)).mono ?_); rintro e w2 ⟨rfl, n2, rfl⟩) | (refine step_append_lies _ rfl (.tmp 28) (.tmp 33) 35 rfl w.heap.size 3 i0 (.int .i64 0) 1 8 Try.underlying35 hi hz0 hz1 hz2 rfl (by decide) v1 P.length (ints P) rfl (HO1.out.alloc _) _ 1 1 [.int .i64 x] rfl rfl (news_one _ _ _) (by simp [Value.oneCell']) (by omega) HC1.out HC2.out (Nat.le_trans HB1.out.size (by simp)) _ rfl ?_; intro g cap' w3 hown hgrow hat hg; have HO3 := Lib.hid hown; have HG3 := Lib.hid hgrow; have HA3 := Lib.hid hat; clear hown hgrow hat hg))
      go_wp2_with fail
      go_ret
      refine ⟨_, rfl, by rw [ints_snoc, List.length_append]; exact HO3.out, ?_⟩
      exact Below.grown (((below_drewN HB1.out _).alloc HB1.out.size _)) HG3.out (Nat.le_trans HB1.out.size (by simp)) (fun j hj => (HO1.out.lt j hj).1)
    · rw [pgrL, if_neg hn1, if_neg hlt]
      have hlen := pgrL_len m (ss.drop (splitN ss.length)) (k - splitN ss.length) false
      have hi1 := fun (wx : World) (hw : Rw wx (some ⟨b, off, none⟩) (strs ss)) => ih (some ⟨b, off + splitN ss.length, none⟩) (cap - splitN ss.length) (ss.length - splitN ss.length) (k - splitN ss.length) false (ss.drop (splitN ss.length)) wx (by rw [List.length_drop]) (by omega) (by omega) (by omega) (by have := hw.drop (splitN ss.length); rwa [strs, ← List.map_drop] at this) (by omega) (by omega) (by omega) (by omega) (fun s hs => hsz s (List.mem_of_mem_drop hs))
      have hi2 := fun (wx : World) (hw : Rw wx (some ⟨b, off, none⟩) (strs ss)) => spec_root (splitN ss.length) (some ⟨b, off, none⟩) cap (splitN ss.length) (ss.take (splitN ss.length)) wx (by rw [List.length_take]; omega) (by omega) (by have := hw.take (splitN ss.length); rwa [strs, ← List.map_take] at this) (by omega) hcm (by omega) (fun s hs => hsz s (List.mem_of_mem_take hs))
      clear ih hsz
      rw [show (((k - splitN ss.length : Nat)) : Int) = (k : Int) - ((splitN ss.length : Nat) : Int) from by omega] at hi1
      generalize pgrL m (ss.drop (splitN ss.length)) (k - splitN ss.length) false = P at *
      generalize rootL (ss.take (splitN ss.length)) = x at *
      generalize splitN ss.length = q at *
      have HI1 := Lib.hid hi1; have HI2 := Lib.hid hi2; have HR := Lib.hid hrow; have HS := Lib.hid hs; have HC1 : Hid (P.length + 1 ≤ maxLen) := by show P.length + 1 ≤ maxLen; unfold maxLen; omega
      have HC2 : Hid ((P.length + 1) * 8 ≤ 140737488355328) := by show (P.length + 1) * 8 ≤ 140737488355328; omega
      have hq1 : q ≤ cap := by omega
      have hq2 : q < cap := by omega
      have hq3 : ¬ q = cap := by omega
      have hq4 : ¬ cap = q := by omega
      have hq5 : q ≤ ss.length := by omega
      clear hi1 hi2 hrow hs hlen hn1
      have hw1 : IntKind.i64.wrap ((k : Int) - (q : Int)) = (k : Int) - (q : Int) := IntWalk.i64_in _ (by omega)
      go_enter Try.func73, Try.ntmps73
      go_wp2_with fail
      refine HS.out.mono ?_
      rintro e w' ⟨rfl, rfl⟩
      go_wp2_with fail
      go_region_law (first | (go_simp; go_at_call 73; (with_reducible refine (HI1.out _ HR.out.drew).mono ?_); rintro e w1 ⟨v1, rfl, ho1, hb1⟩; go_must (have HO1 : Hid (w1.ownsRow w.heap.size 3 1 v1 P.length (ints P)) := ho1; have HB1 : Hid (Below w.heap.size w w1) := below_undrew hb1; clear ho1 hb1)) | (go_simp; go_at_call 56; (with_reducible refine (HI2.out _ (HR.out.below HB1.out)).mono ?_); rintro e w2 ⟨rfl, n2, rfl⟩) | (refine step_append_lies _ rfl (.tmp 41) (.tmp 46) 35 rfl w.heap.size 3 i0 (.int .i64 0) 1 8 Try.underlying35 hi hz0 hz1 hz2 rfl (by decide) v1 P.length (ints P) rfl (HO1.out.alloc _) _ 1 1 [.int .i64 x] rfl rfl (news_one _ _ _) (by simp [Value.oneCell']) (by omega) HC1.out HC2.out (Nat.le_trans HB1.out.size (by simp)) _ rfl ?_; intro g cap' w3 hown hgrow hat hg; have HO3 := Lib.hid hown; have HG3 := Lib.hid hgrow; have HA3 := Lib.hid hat; clear hown hgrow hat hg))
      go_wp2_with fail
      go_ret
      refine ⟨_, rfl, by rw [ints_snoc, List.length_append]; exact HO3.out, ?_⟩
      exact Below.grown (((below_drewN HB1.out _).alloc HB1.out.size _)) HG3.out (Nat.le_trans HB1.out.size (by simp)) (fun j hj => (HO1.out.lt j hj).1)

def ProveGrewR (ss : List ByteArray) (k : Int) : List Int × Bool :=
  if logB ss && inB k 1 (ss.length : Int) then (pgrL ss.length ss k.toNat true, true) else ([], false)

set_option maxHeartbeats 1000000 in
theorem impl_ProveGrew (a : Option Addr) (cap : Nat) (ss : List ByteArray) (k : Int) (w : World) (hrow : Rw w a (strs ss)) (hc1 : ss.length ≤ cap) (hc2 : cap ≤ 9223372036854775807) (hn : ss.length ≤ 1048576) (hsz : ∀ s ∈ ss, s.size ≤ 9223372036854775807) :
    Calls Try.prog 37 #[.slice a ss.length cap, .int .i64 k] w (MadeProof (ProveGrewR ss k).1 (ProveGrewR ss k).2 w) := by
  have hl := fun wx (hw : Rw wx a (strs ss)) => logOK_any a cap ss wx hw hn hsz
  have HR := Lib.hid hrow
  cases hb : logB ss with
  | false =>
    have hf : ProveGrewR ss k = ([], false) := by unfold ProveGrewR; rw [hb]; rfl
    rw [hf]
    rw [hb] at hl
    have HL2 := Lib.hid hl
    clear hf hrow hsz hb hl
    go_enter Try.func37, Try.ntmps37
    go_wp2_with fail
    refine (HL2.out _ (HR.out.alloc _)).mono ?_
    rintro e w' ⟨rfl, rfl⟩
    go_wp2_with fail
    exact bodyPost_ret (v := .tuple #[.agg #[.slice none 0 0], .bool false]) (by simp [results, Try.results37, go_sem]) rfl ⟨_, rfl, World.ownsRow_nil _ _ _ _, (Below.refl _ _).alloc (Nat.le_refl _) _⟩
  | true =>
  have hlen := logB_len hb
  rw [hb] at hl
  have HL2 := Lib.hid hl
  cases hk : inB k 1 (ss.length : Int) with
  | false =>
    have hf : ProveGrewR ss k = ([], false) := by unfold ProveGrewR; rw [hk]; simp
    rw [hf]
    clear hf hrow hsz hb hl
    go_enter Try.func37, Try.ntmps37
    go_wp2_with fail
    refine (HL2.out _ (HR.out.alloc _)).mono ?_
    rintro e w' ⟨rfl, rfl⟩
    go_wp2_with fail
    refine (within_any _ _ _ _).mono ?_
    rintro e w' ⟨rfl, rfl⟩
    go_wp2_with fail
    exact bodyPost_ret (v := .tuple #[.agg #[.slice none 0 0], .bool false]) (by simp [results, Try.results37, go_sem]) rfl ⟨_, rfl, World.ownsRow_nil _ _ _ _, (Below.refl _ _).alloc (Nat.le_refl _) _⟩
  | true =>
  have hk2 := inB_of hk
  obtain ⟨j, rfl⟩ := Int.eq_ofNat_of_zero_le (show 0 ≤ k by omega)
  have hf : ProveGrewR ss (j : Int) = (pgrL ss.length ss j true, true) := by unfold ProveGrewR; rw [hk, hb]; rfl
  rw [hf]
  have HP := Lib.hid (fun wx (hw : Rw wx a (strs ss)) => impl_proveGrew ss.length a cap ss.length j true ss wx rfl (Nat.le_refl _) (by omega) (by omega) hw hc1 hc2 (by omega) hn hsz)
  clear hf hrow hsz hb hl hk2
  go_enter Try.func37, Try.ntmps37
  go_wp2_with fail
  refine (HL2.out _ (HR.out.alloc _)).mono ?_
  rintro e w' ⟨rfl, rfl⟩
  go_wp2_with fail
  refine (within_any _ _ _ _).mono ?_
  rintro e w' ⟨rfl, rfl⟩
  go_wp2_with fail
  refine (HP.out _ (HR.out.alloc _)).mono ?_
  rintro e w1 ⟨v, rfl, ho, hb1⟩
  obtain ⟨av, cv, rfl⟩ := form_of_own ho
  have c1 : w1.cell? ⟨w.heap.size, 0, none⟩ = some (.slice none 0 0) := (hb1.cell (p := ⟨w.heap.size, 0, none⟩) (by simp)).trans (by go_simp)
  have f1 : w1.frozen? ⟨w.heap.size, 0, none⟩ = false := (hb1.frozen (p := ⟨w.heap.size, 0, none⟩) (by simp)).trans (by go_simp)
  have HB := Lib.hid (((Below.refl w.heap.size w).alloc (Nat.le_refl _) _).trans (hb1.mono (by simp)))
  have HO := Lib.hid (own_mono ho (show w.heap.size + 1 ≤ _ by simp))
  clear ho hb1
  go_wp2_with fail
  refine bodyPost_ret (v := .tuple #[.agg #[.slice av (pgrL ss.length ss j true).length cv], .bool true]) (by simp [results, Try.results37, go_sem, c1]) rfl ⟨_, rfl, ?_, ?_⟩
  · exact own_mono (ownsRow_setCell_below HO.out (a := ⟨w.heap.size, 0, none⟩) (by simp) _) (Nat.le_succ _)
  · exact HB.out.setCell (p := ⟨w.heap.size, 0, none⟩) (Nat.le_refl _) _

set_option maxHeartbeats 1000000 in
theorem spec_ProveGrew (a : Option Addr) (cap : Nat) (ss : List ByteArray) (k : Int) (w : World) (hrow : Rw w a (strs ss)) (hc1 : ss.length ≤ cap) (hc2 : cap ≤ 9223372036854775807) (hn : ss.length ≤ 1048576) (hsz : ∀ s ∈ ss, s.size ≤ 9223372036854775807) :
    Calls Try.prog 36 #[.slice a ss.length cap, .int .i64 k] w (MadeProof (ProveGrewR ss k).1 (ProveGrewR ss k).2 w) := by
  have hl := fun wx (hw : Rw wx a (strs ss)) => l13Log_any a cap ss wx hw hn hsz
  have HR := Lib.hid hrow
  cases hb : logB ss with
  | false =>
    have hf : ProveGrewR ss k = ([], false) := by unfold ProveGrewR; rw [hb]; rfl
    rw [hf]
    rw [hb] at hl
    have HL2 := Lib.hid hl
    clear hf hrow hsz hb hl
    go_enter Try.func36, Try.ntmps36
    go_wp2_with fail
    refine (HL2.out _ (HR.out.alloc _)).mono ?_
    rintro e w' ⟨rfl, rfl⟩
    go_wp2_with fail
    exact bodyPost_ret (v := .tuple #[.agg #[.slice none 0 0], .bool false]) (by simp [results, Try.results36, go_sem]) rfl ⟨_, rfl, World.ownsRow_nil _ _ _ _, (Below.refl _ _).alloc (Nat.le_refl _) _⟩
  | true =>
  have hlen := logB_len hb
  rw [hb] at hl
  have HL2 := Lib.hid hl
  cases hk : inB k 1 (ss.length : Int) with
  | false =>
    have hf : ProveGrewR ss k = ([], false) := by unfold ProveGrewR; rw [hk]; simp
    rw [hf]
    clear hf hrow hsz hb hl
    go_enter Try.func36, Try.ntmps36
    go_wp2_with fail
    refine (HL2.out _ (HR.out.alloc _)).mono ?_
    rintro e w' ⟨rfl, rfl⟩
    go_wp2_with fail
    refine (l1In_any _ _ _ _).mono ?_
    rintro e w' ⟨rfl, rfl⟩
    go_wp2_with fail
    exact bodyPost_ret (v := .tuple #[.agg #[.slice none 0 0], .bool false]) (by simp [results, Try.results36, go_sem]) rfl ⟨_, rfl, World.ownsRow_nil _ _ _ _, (Below.refl _ _).alloc (Nat.le_refl _) _⟩
  | true =>
  have hk2 := inB_of hk
  obtain ⟨j, rfl⟩ := Int.eq_ofNat_of_zero_le (show 0 ≤ k by omega)
  have hf : ProveGrewR ss (j : Int) = (pgrL ss.length ss j true, true) := by unfold ProveGrewR; rw [hk, hb]; rfl
  rw [hf]
  have HP := Lib.hid (fun wx (hw : Rw wx a (strs ss)) => spec_proveGrew ss.length a cap ss.length j true ss wx rfl (Nat.le_refl _) (by omega) (by omega) hw hc1 hc2 (by omega) hn hsz)
  clear hf hrow hsz hb hl hk2
  go_enter Try.func36, Try.ntmps36
  go_wp2_with fail
  refine (HL2.out _ (HR.out.alloc _)).mono ?_
  rintro e w' ⟨rfl, rfl⟩
  go_wp2_with fail
  refine (l1In_any _ _ _ _).mono ?_
  rintro e w' ⟨rfl, rfl⟩
  go_wp2_with fail
  refine (HP.out _ (HR.out.alloc _)).mono ?_
  rintro e w1 ⟨v, rfl, ho, hb1⟩
  obtain ⟨av, cv, rfl⟩ := form_of_own ho
  have c1 : w1.cell? ⟨w.heap.size, 0, none⟩ = some (.slice none 0 0) := (hb1.cell (p := ⟨w.heap.size, 0, none⟩) (by simp)).trans (by go_simp)
  have f1 : w1.frozen? ⟨w.heap.size, 0, none⟩ = false := (hb1.frozen (p := ⟨w.heap.size, 0, none⟩) (by simp)).trans (by go_simp)
  have HB := Lib.hid (((Below.refl w.heap.size w).alloc (Nat.le_refl _) _).trans (hb1.mono (by simp)))
  have HO := Lib.hid (own_mono ho (show w.heap.size + 1 ≤ _ by simp))
  clear ho hb1
  go_wp2_with fail
  refine bodyPost_ret (v := .tuple #[.agg #[.slice av (pgrL ss.length ss j true).length cv], .bool true]) (by simp [results, Try.results36, go_sem, c1]) rfl ⟨_, rfl, ?_, ?_⟩
  · exact own_mono (ownsRow_setCell_below HO.out (a := ⟨w.heap.size, 0, none⟩) (by simp) _) (Nat.le_succ _)
  · exact HB.out.setCell (p := ⟨w.heap.size, 0, none⟩) (Nat.le_refl _) _


end Go.Proofs.Ytdhkagabkhepgaa
