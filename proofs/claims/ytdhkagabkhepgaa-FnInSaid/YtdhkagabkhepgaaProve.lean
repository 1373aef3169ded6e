/- The contracts of ProveIn and ProveGrew, the program's and the reference's. -/
import Derived.Test.YtdhkagabkhepgaaLogRoot
import Derived.Test.YtdhkagabkhepgaaLogPlain
import Derived.Test.YtdhkagabkhepgaaInts
import Derived.Lib.SmallJoins
import Derived.Deep.AppendLies
import Derived.Deep.RegionLaw
namespace Go.Proofs.Ytdhkagabkhepgaa
set_option linter.unusedVariables false
open Go.ChangeShapes Go.WideShapes Go.ChangeAt Go.RowKit

/-- A list of numbers in new memory of the call's own. -/
def MadeInts (xs : List Int) (w : World) (e : Ending) (w' : World) : Prop :=
  ∃ v, e = .returned v ∧ w'.ownsRow w.heap.size 3 1 v xs.length (ints xs) ∧ Below w.heap.size w w'

def pinL : Nat → List ByteArray → Nat → List Int
  | 0, _, _ => []
  | m + 1, ss, k =>
    if ss.length = 1 then []
    else if k < splitN ss.length then pinL m (ss.take (splitN ss.length)) k ++ [rootL (ss.drop (splitN ss.length))]
    else pinL m (ss.drop (splitN ss.length)) (k - splitN ss.length) ++ [rootL (ss.take (splitN ss.length))]
theorem pinL_len : ∀ (m : Nat) (ss : List ByteArray) (k : Nat), (pinL m ss k).length ≤ m
  | 0, _, _ => Nat.le_refl _
  | m + 1, ss, k => by
    unfold pinL
    by_cases h : ss.length = 1
    · rw [if_pos h]; simp
    · rw [if_neg h]
      by_cases h2 : k < splitN ss.length
      · rw [if_pos h2]; have := pinL_len m (ss.take (splitN ss.length)) k; simp; omega
      · rw [if_neg h2]; have := pinL_len m (ss.drop (splitN ss.length)) (k - splitN ss.length); simp; omega

theorem ints_snoc (xs : List Int) (x : Int) : ints (xs ++ [x]) = ints xs ++ [.int .i64 x] := by simp [ints]
set_option maxHeartbeats 4000000 in
theorem impl_proveIn (m : Nat) : ∀ (a : Option Addr) (cap n k : Nat) (ss : List ByteArray) (w : World), ss.length = n → n ≤ m → 1 ≤ n → k < n → Rw w a (strs ss) → n ≤ cap → cap ≤ 9223372036854775807 → n ≤ 1048576 → m ≤ 1048576 → (∀ s ∈ ss, s.size ≤ 9223372036854775807) →
    Calls Try.prog 69 #[.slice a n cap, .int .i64 (k : Int)] w (MadeInts (pinL m ss k) w) := by
  induction m with
  | zero => intro a cap n k ss w h1 h2 h3; omega
  | succ m ih =>
    intro a cap n k ss w hl hm h1 hk hrow hcap hcm hn hmm hsz
    by_cases hn1 : n = 1
    · have hf : pinL (m + 1) ss k = [] := by rw [pinL, if_pos (by omega)]
      rw [hf]
      subst hn1
      clear hrow ih hf hl hsz
      go_enter Try.func69, Try.ntmps69
      go_wp2_with fail
      go_ret
      exact ⟨_, rfl, World.ownsRow_nil _ _ _ _, Below.refl _ _⟩
    obtain ⟨i0, hi, hz0, hz1, hz2⟩ := info_parts Try.infoInt
    subst hl
    have k1 := splitN_pos ss.length
    have k2 := splitN_lt ss.length (by omega)
    obtain ⟨b, off, rfl, hbl, hc⟩ := hrow.at (strs_ne (k := 0) (by omega))
    clear hc
    have hs := impl_split ss.length w (by omega)
    have hne1 : ((ss.length : Int) == 1) = false := beq_eq_false_iff_ne.2 (by omega)
    by_cases hlt : k < splitN ss.length
    · rw [pinL, if_neg hn1, if_pos hlt]
      have hlen := pinL_len m (ss.take (splitN ss.length)) k
      have hi1 := fun (wx : World) (hw : Rw wx (some ⟨b, off, none⟩) (strs ss)) => ih (some ⟨b, off, none⟩) cap (splitN ss.length) k (ss.take (splitN ss.length)) wx (by rw [List.length_take]; omega) (by omega) k1 hlt (by have := hw.take (splitN ss.length); rwa [strs, ← List.map_take] at this) (by omega) hcm (by omega) (by omega) (fun s hs => hsz s (List.mem_of_mem_take hs))
      have hi2 := fun (wx : World) (hw : Rw wx (some ⟨b, off, none⟩) (strs ss)) => impl_root (ss.length - splitN ss.length) (some ⟨b, off + splitN ss.length, none⟩) (cap - splitN ss.length) (ss.length - splitN ss.length) (ss.drop (splitN ss.length)) wx (by rw [List.length_drop]) (by omega) (by have := hw.drop (splitN ss.length); rwa [strs, ← List.map_drop] at this) (by omega) (by omega) (by omega) (fun s hs => hsz s (List.mem_of_mem_drop hs))
      clear ih hsz
      generalize pinL m (ss.take (splitN ss.length)) k = P at *
      generalize rootL (ss.drop (splitN ss.length)) = x at *
      generalize splitN ss.length = q at *
      have HI1 := Lib.hid hi1; have HI2 := Lib.hid hi2; have HR := Lib.hid hrow; have HS := Lib.hid hs; have HC1 : Hid (P.length + 1 ≤ maxLen) := by show P.length + 1 ≤ maxLen; unfold maxLen; omega
      have HC2 : Hid ((P.length + 1) * 8 ≤ 140737488355328) := by show (P.length + 1) * 8 ≤ 140737488355328; omega
      have hq1 : q ≤ cap := by omega
      have hq2 : q < cap := by omega
      have hq3 : ¬ q = cap := by omega
      have hq4 : ¬ cap = q := by omega
      have hq5 : q ≤ ss.length := by omega
      clear hi1 hi2 hrow hs hlen hn1
      go_enter Try.func69, Try.ntmps69
      go_wp2_with fail
      refine HS.out.mono ?_
      rintro e w' ⟨rfl, rfl⟩
      go_wp2_with fail
      go_region_law (first | (go_simp; go_at_call 69; (with_reducible refine (HI1.out _ HR.out.drew).mono ?_); rintro e w1 ⟨v1, rfl, ho1, hb1⟩; go_must (have HO1 : Hid (w1.ownsRow w.heap.size 3 1 v1 P.length (ints P)) := ho1; have HB1 : Hid (Below w.heap.size w w1) := below_undrew hb1; clear ho1 hb1)) | (go_simp; go_at_call 58; (with_reducible refine (HI2.out _ (HR.out.below HB1.out)).mono ?_); rintro e w2 ⟨rfl, n2, rfl⟩) | (refine step_append_lies _ rfl (.tmp 19) (.tmp 24) 35 rfl w.heap.size 3 i0 (.int .i64 0) 1 8 Try.underlying35 hi hz0 hz1 hz2 rfl (by decide) v1 P.length (ints P) rfl (HO1.out.alloc _) _ 1 1 [.int .i64 x] rfl rfl (news_one _ _ _) (by simp [Value.oneCell']) (by omega) HC1.out HC2.out (Nat.le_trans HB1.out.size (by simp)) _ rfl ?_; intro g cap' w3 hown hgrow hat hg; have HO3 := Lib.hid hown; have HG3 := Lib.hid hgrow; have HA3 := Lib.hid hat; clear hown hgrow hat hg))
      go_wp2_with fail
      go_ret
      refine ⟨_, rfl, by rw [ints_snoc, List.length_append]; exact HO3.out, ?_⟩
      exact Below.grown (((below_drewN HB1.out _).alloc HB1.out.size _)) HG3.out (Nat.le_trans HB1.out.size (by simp)) (fun j hj => (HO1.out.lt j hj).1)
    · rw [pinL, if_neg hn1, if_neg hlt]
      have hlen := pinL_len m (ss.drop (splitN ss.length)) (k - splitN ss.length)
      have hi1 := fun (wx : World) (hw : Rw wx (some ⟨b, off, none⟩) (strs ss)) => ih (some ⟨b, off + splitN ss.length, none⟩) (cap - splitN ss.length) (ss.length - splitN ss.length) (k - splitN ss.length) (ss.drop (splitN ss.length)) wx (by rw [List.length_drop]) (by omega) (by omega) (by omega) (by have := hw.drop (splitN ss.length); rwa [strs, ← List.map_drop] at this) (by omega) (by omega) (by omega) (by omega) (fun s hs => hsz s (List.mem_of_mem_drop hs))
      have hi2 := fun (wx : World) (hw : Rw wx (some ⟨b, off, none⟩) (strs ss)) => impl_root (splitN ss.length) (some ⟨b, off, none⟩) cap (splitN ss.length) (ss.take (splitN ss.length)) wx (by rw [List.length_take]; omega) (by omega) (by have := hw.take (splitN ss.length); rwa [strs, ← List.map_take] at this) (by omega) hcm (by omega) (fun s hs => hsz s (List.mem_of_mem_take hs))
      clear ih hsz
      rw [show (((k - splitN ss.length : Nat)) : Int) = (k : Int) - ((splitN ss.length : Nat) : Int) from by omega] at hi1
      generalize pinL m (ss.drop (splitN ss.length)) (k - splitN ss.length) = P at *
      generalize rootL (ss.take (splitN ss.length)) = x at *
      generalize splitN ss.length = q at *
      have HI1 := Lib.hid hi1; have HI2 := Lib.hid hi2; have HR := Lib.hid hrow; have HS := Lib.hid hs; have HC1 : Hid (P.length + 1 ≤ maxLen) := by show P.length + 1 ≤ maxLen; unfold maxLen; omega
      have HC2 : Hid ((P.length + 1) * 8 ≤ 140737488355328) := by show (P.length + 1) * 8 ≤ 140737488355328; omega
      have hq1 : q ≤ cap := by omega
      have hq2 : q < cap := by omega
      have hq3 : ¬ q = cap := by omega
      have hq4 : ¬ cap = q := by omega
      have hq5 : q ≤ ss.length := by omega
      clear hi1 hi2 hrow hs hlen hn1
      have hw1 : IntKind.i64.wrap ((k : Int) - (q : Int)) = (k : Int) - (q : Int) := IntWalk.i64_in _ (by omega)
      go_enter Try.func69, Try.ntmps69
      go_wp2_with fail
      refine HS.out.mono ?_
      rintro e w' ⟨rfl, rfl⟩
      go_wp2_with fail
      go_region_law (first | (go_simp; go_at_call 69; (with_reducible refine (HI1.out _ HR.out.drew).mono ?_); rintro e w1 ⟨v1, rfl, ho1, hb1⟩; go_must (have HO1 : Hid (w1.ownsRow w.heap.size 3 1 v1 P.length (ints P)) := ho1; have HB1 : Hid (Below w.heap.size w w1) := below_undrew hb1; clear ho1 hb1)) | (go_simp; go_at_call 58; (with_reducible refine (HI2.out _ (HR.out.below HB1.out)).mono ?_); rintro e w2 ⟨rfl, n2, rfl⟩) | (refine step_append_lies _ rfl (.tmp 32) (.tmp 37) 35 rfl w.heap.size 3 i0 (.int .i64 0) 1 8 Try.underlying35 hi hz0 hz1 hz2 rfl (by decide) v1 P.length (ints P) rfl (HO1.out.alloc _) _ 1 1 [.int .i64 x] rfl rfl (news_one _ _ _) (by simp [Value.oneCell']) (by omega) HC1.out HC2.out (Nat.le_trans HB1.out.size (by simp)) _ rfl ?_; intro g cap' w3 hown hgrow hat hg; have HO3 := Lib.hid hown; have HG3 := Lib.hid hgrow; have HA3 := Lib.hid hat; clear hown hgrow hat hg))
      go_wp2_with fail
      go_ret
      refine ⟨_, rfl, by rw [ints_snoc, List.length_append]; exact HO3.out, ?_⟩
      exact Below.grown (((below_drewN HB1.out _).alloc HB1.out.size _)) HG3.out (Nat.le_trans HB1.out.size (by simp)) (fun j hj => (HO1.out.lt j hj).1)
set_option maxHeartbeats 4000000 in
theorem spec_proveIn (m : Nat) : ∀ (a : Option Addr) (cap n k : Nat) (ss : List ByteArray) (w : World), ss.length = n → n ≤ m → 1 ≤ n → k < n → Rw w a (strs ss) → n ≤ cap → cap ≤ 9223372036854775807 → n ≤ 1048576 → m ≤ 1048576 → (∀ s ∈ ss, s.size ≤ 9223372036854775807) →
    Calls Try.prog 68 #[.slice a n cap, .int .i64 (k : Int)] w (MadeInts (pinL m ss k) w) := by
  induction m with
  | zero => intro a cap n k ss w h1 h2 h3; omega
  | succ m ih =>
    intro a cap n k ss w hl hm h1 hk hrow hcap hcm hn hmm hsz
    by_cases hn1 : n = 1
    · have hf : pinL (m + 1) ss k = [] := by rw [pinL, if_pos (by omega)]
      rw [hf]
      subst hn1
      clear hrow ih hf hl hsz
      go_enter Try.func68, Try.ntmps68
      go_wp2_with fail
      go_ret
      exact ⟨_, rfl, World.ownsRow_nil _ _ _ _, Below.refl _ _⟩
    obtain ⟨i0, hi, hz0, hz1, hz2⟩ := info_parts Try.infoInt
    subst hl
    have k1 := splitN_pos ss.length
    have k2 := splitN_lt ss.length (by omega)
    obtain ⟨b, off, rfl, hbl, hc⟩ := hrow.at (strs_ne (k := 0) (by omega))
    clear hc
    have hs := spec_split ss.length w (by omega)
    have hne1 : ((ss.length : Int) == 1) = false := beq_eq_false_iff_ne.2 (by omega)
    by_cases hlt : k < splitN ss.length
    · rw [pinL, if_neg hn1, if_pos hlt]
      have hlen := pinL_len m (ss.take (splitN ss.length)) k
      have hi1 := fun (wx : World) (hw : Rw wx (some ⟨b, off, none⟩) (strs ss)) => ih (some ⟨b, off, none⟩) cap (splitN ss.length) k (ss.take (splitN ss.length)) wx (by rw [List.length_take]; omega) (by omega) k1 hlt (by have := hw.take (splitN ss.length); rwa [strs, ← List.map_take] at this) (by omega) hcm (by omega) (by omega) (fun s hs => hsz s (List.mem_of_mem_take hs))
      have hi2 := fun (wx : World) (hw : Rw wx (some ⟨b, off, none⟩) (strs ss)) => spec_root (ss.length - splitN ss.length) (some ⟨b, off + splitN ss.length, none⟩) (cap - splitN ss.length) (ss.length - splitN ss.length) (ss.drop (splitN ss.length)) wx (by rw [List.length_drop]) (by omega) (by have := hw.drop (splitN ss.length); rwa [strs, ← List.map_drop] at this) (by omega) (by omega) (by omega) (fun s hs => hsz s (List.mem_of_mem_drop hs))
      clear ih hsz
      generalize pinL m (ss.take (splitN ss.length)) k = P at *
      generalize rootL (ss.drop (splitN ss.length)) = x at *
      generalize splitN ss.length = q at *
      have HI1 := Lib.hid hi1; have HI2 := Lib.hid hi2; have HR := Lib.hid hrow; have HS := Lib.hid hs; have HC1 : Hid (P.length + 1 ≤ maxLen) := by show P.length + 1 ≤ maxLen; unfold maxLen; omega
      have HC2 : Hid ((P.length + 1) * 8 ≤ 140737488355328) := by show (P.length + 1) * 8 ≤ 140737488355328; omega
      have hq1 : q ≤ cap := by omega
      have hq2 : q < cap := by omega
      have hq3 : ¬ q = cap := by omega
      have hq4 : ¬ cap = q := by omega
      have hq5 : q ≤ ss.length := by omega
      clear hi1 hi2 hrow hs hlen hn1
      go_enter Try.func68, Try.ntmps68
      go_wp2_with fail
      refine HS.out.mono ?_
      rintro e w' ⟨rfl, rfl⟩
      go_wp2_with fail
      go_region_law (first | (go_simp; go_at_call 68; (with_reducible refine (HI1.out _ HR.out.drew).mono ?_); rintro e w1 ⟨v1, rfl, ho1, hb1⟩; go_must (have HO1 : Hid (w1.ownsRow w.heap.size 3 1 v1 P.length (ints P)) := ho1; have HB1 : Hid (Below w.heap.size w w1) := below_undrew hb1; clear ho1 hb1)) | (go_simp; go_at_call 56; (with_reducible refine (HI2.out _ (HR.out.below HB1.out)).mono ?_); rintro e w2 ⟨rfl, n2, rfl⟩) | (refine step_append_lies _ rfl (.tmp 19) (.tmp 24) 35 rfl w.heap.size 3 i0 (.int .i64 0) 1 8 Try.underlying35 hi hz0 hz1 hz2 rfl (by decide) v1 P.length (ints P) rfl (HO1.out.alloc _) _ 1 1 [.int .i64 x] rfl rfl (news_one _ _ _) (by simp [Value.oneCell']) (by omega) HC1.out HC2.out (Nat.le_trans HB1.out.size (by simp)) _ rfl ?_; intro g cap' w3 hown hgrow hat hg; have HO3 := Lib.hid hown; have HG3 := Lib.hid hgrow; have HA3 := Lib.hid hat; clear hown hgrow hat hg))
      go_wp2_with fail
      go_ret
      refine ⟨_, rfl, by rw [ints_snoc, List.length_append]; exact HO3.out, ?_⟩
      exact Below.grown (((below_drewN HB1.out _).alloc HB1.out.size _)) HG3.out (Nat.le_trans HB1.out.size (by simp)) (fun j hj => (HO1.out.lt j hj).1)
    · rw [pinL, if_neg hn1, if_neg hlt]
      have hlen := pinL_len m (ss.drop (splitN ss.length)) (k - splitN ss.length)
      have hi1 := fun (wx : World) (hw : Rw wx (some ⟨b, off, none⟩) (strs ss)) => ih (some ⟨b, off + splitN ss.length, none⟩) (cap - splitN ss.length) (ss.length - splitN ss.length) (k - splitN ss.length) (ss.drop (splitN ss.length)) wx (by rw [List.length_drop]) (by omega) (by omega) (by omega) (by have := hw.drop (splitN ss.length); rwa [strs, ← List.map_drop] at this) (by omega) (by omega) (by omega) (by omega) (fun s hs => hsz s (List.mem_of_mem_drop hs))
      have hi2 := fun (wx : World) (hw : Rw wx (some ⟨b, off, none⟩) (strs ss)) => spec_root (splitN ss.length) (some ⟨b, off, none⟩) cap (splitN ss.length) (ss.take (splitN ss.length)) wx (by rw [List.length_take]; omega) (by omega) (by have := hw.take (splitN ss.length); rwa [strs, ← List.map_take] at this) (by omega) hcm (by omega) (fun s hs => hsz s (List.mem_of_mem_take hs))
      clear ih hsz
      rw [show (((k - splitN ss.length : Nat)) : Int) = (k : Int) - ((splitN ss.length : Nat) : Int) from by omega] at hi1
      generalize pinL m (ss.drop (splitN ss.length)) (k - splitN ss.length) = P at *
      generalize rootL (ss.take (splitN ss.length)) = x at *
      generalize splitN ss.length = q at *
      have HI1 := Lib.hid hi1; have HI2 := Lib.hid hi2; have HR := Lib.hid hrow; have HS := Lib.hid hs; have HC1 : Hid (P.length + 1 ≤ maxLen) := by show P.length + 1 ≤ maxLen; unfold maxLen; omega
      have HC2 : Hid ((P.length + 1) * 8 ≤ 140737488355328) := by show (P.length + 1) * 8 ≤ 140737488355328; omega
      have hq1 : q ≤ cap := by omega
      have hq2 : q < cap := by omega
      have hq3 : ¬ q = cap := by omega
      have hq4 : ¬ cap = q := by omega
      have hq5 : q ≤ ss.length := by omega
      clear hi1 hi2 hrow hs hlen hn1
      have hw1 : IntKind.i64.wrap ((k : Int) - (q : Int)) = (k : Int) - (q : Int) := IntWalk.i64_in _ (by omega)
      go_enter Try.func68, Try.ntmps68
      go_wp2_with fail
      refine HS.out.mono ?_
      rintro e w' ⟨rfl, rfl⟩
      go_wp2_with fail
      go_region_law (first | (go_simp; go_at_call 68; (with_reducible refine (HI1.out _ HR.out.drew).mono ?_); rintro e w1 ⟨v1, rfl, ho1, hb1⟩; go_must (have HO1 : Hid (w1.ownsRow w.heap.size 3 1 v1 P.length (ints P)) := ho1; have HB1 : Hid (Below w.heap.size w w1) := below_undrew hb1; clear ho1 hb1)) | (go_simp; go_at_call 56; (with_reducible refine (HI2.out _ (HR.out.below HB1.out)).mono ?_); rintro e w2 ⟨rfl, n2, rfl⟩) | (refine step_append_lies _ rfl (.tmp 32) (.tmp 37) 35 rfl w.heap.size 3 i0 (.int .i64 0) 1 8 Try.underlying35 hi hz0 hz1 hz2 rfl (by decide) v1 P.length (ints P) rfl (HO1.out.alloc _) _ 1 1 [.int .i64 x] rfl rfl (news_one _ _ _) (by simp [Value.oneCell']) (by omega) HC1.out HC2.out (Nat.le_trans HB1.out.size (by simp)) _ rfl ?_; intro g cap' w3 hown hgrow hat hg; have HO3 := Lib.hid hown; have HG3 := Lib.hid hgrow; have HA3 := Lib.hid hat; clear hown hgrow hat hg))
      go_wp2_with fail
      go_ret
      refine ⟨_, rfl, by rw [ints_snoc, List.length_append]; exact HO3.out, ?_⟩
      exact Below.grown (((below_drewN HB1.out _).alloc HB1.out.size _)) HG3.out (Nat.le_trans HB1.out.size (by simp)) (fun j hj => (HO1.out.lt j hj).1)
end Go.Proofs.Ytdhkagabkhepgaa
