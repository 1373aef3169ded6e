/- ProveIn as the program and the reference export it. -/
import Derived.Test.YtdhkagabkhepgaaProve
namespace Go.Proofs.Ytdhkagabkhepgaa
set_option linter.unusedVariables false
open Go.ChangeShapes Go.WideShapes Go.ChangeAt Go.RowKit

/-- A proof in new memory of the call's own, and whether there is one. -/
def MadeProof (xs : List Int) (ok : Bool) (w : World) (e : Ending) (w' : World) : Prop :=
  ∃ v, e = .returned (.tuple #[.agg #[v], .bool ok]) ∧ w'.ownsRow w.heap.size 3 1 v xs.length (ints xs) ∧ Below w.heap.size w w'

def ProveInR (ss : List ByteArray) (k : Int) : List Int × Bool :=
  if logB ss && inB k 0 ((ss.length : Int) - 1) then (pinL ss.length ss k.toNat, true) else ([], false)

set_option maxHeartbeats 1000000 in
theorem impl_ProveIn (a : Option Addr) (cap : Nat) (ss : List ByteArray) (k : Int) (w : World) (hrow : Rw w a (strs ss)) (hc1 : ss.length ≤ cap) (hc2 : cap ≤ 9223372036854775807) (hn : ss.length ≤ 1048576) (hsz : ∀ s ∈ ss, s.size ≤ 9223372036854775807) :
    Calls Try.prog 32 #[.slice a ss.length cap, .int .i64 k] w (MadeProof (ProveInR ss k).1 (ProveInR ss k).2 w) := by
  have hl := fun wx (hw : Rw wx a (strs ss)) => logOK_any a cap ss wx hw hn hsz
  have HR := Lib.hid hrow
  cases hb : logB ss with
  | false =>
    have hf : ProveInR ss k = ([], false) := by unfold ProveInR; rw [hb]; rfl
    rw [hf]
    rw [hb] at hl
    have HL2 := Lib.hid hl
    clear hf hrow hsz hb hl
    go_enter Try.func32, Try.ntmps32
    go_wp2_with fail
    refine (HL2.out _ (HR.out.alloc _)).mono ?_
    rintro e w' ⟨rfl, rfl⟩
    go_wp2_with fail
    exact bodyPost_ret (v := .tuple #[.agg #[.slice none 0 0], .bool false]) (by simp [results, Try.results32, go_sem]) rfl ⟨_, rfl, World.ownsRow_nil _ _ _ _, (Below.refl _ _).alloc (Nat.le_refl _) _⟩
  | true =>
  have hlen := logB_len hb
  rw [hb] at hl
  have HL2 := Lib.hid hl
  cases hk : inB k 0 ((ss.length : Int) - 1) with
  | false =>
    have hf : ProveInR ss k = ([], false) := by unfold ProveInR; rw [hk]; simp
    rw [hf]
    clear hf hrow hsz hb hl
    go_enter Try.func32, Try.ntmps32
    go_wp2_with fail
    refine (HL2.out _ (HR.out.alloc _)).mono ?_
    rintro e w' ⟨rfl, rfl⟩
    go_wp2_with fail
    refine (within_any _ _ _ _).mono ?_
    rintro e w' ⟨rfl, rfl⟩
    go_wp2_with fail
    exact bodyPost_ret (v := .tuple #[.agg #[.slice none 0 0], .bool false]) (by simp [results, Try.results32, go_sem]) rfl ⟨_, rfl, World.ownsRow_nil _ _ _ _, (Below.refl _ _).alloc (Nat.le_refl _) _⟩
  | true =>
  have hk2 := inB_of hk
  obtain ⟨j, rfl⟩ := Int.eq_ofNat_of_zero_le hk2.1
  have hf : ProveInR ss (j : Int) = (pinL ss.length ss j, true) := by unfold ProveInR; rw [hk, hb]; rfl
  rw [hf]
  have HP := Lib.hid (fun wx (hw : Rw wx a (strs ss)) => impl_proveIn ss.length a cap ss.length j ss wx rfl (Nat.le_refl _) (by omega) (by omega) hw hc1 hc2 (by omega) hn hsz)
  clear hf hrow hsz hb hl hk2
  go_enter Try.func32, Try.ntmps32
  go_wp2_with fail
  refine (HL2.out _ (HR.out.alloc _)).mono ?_
  rintro e w' ⟨rfl, rfl⟩
  go_wp2_with fail
  refine (within_any _ _ _ _).mono ?_
  rintro e w' ⟨rfl, rfl⟩
  go_wp2_with fail
  refine (HP.out _ (HR.out.alloc _)).mono ?_
  rintro e w1 ⟨v, rfl, ho, hb1⟩
  obtain ⟨av, cv, rfl⟩ := form_of_own ho
  have c1 : w1.cell? ⟨w.heap.size, 0, none⟩ = some (.slice none 0 0) := (hb1.cell (p := ⟨w.heap.size, 0, none⟩) (by simp)).trans (by go_simp)
  have f1 : w1.frozen? ⟨w.heap.size, 0, none⟩ = false := (hb1.frozen (p := ⟨w.heap.size, 0, none⟩) (by simp)).trans (by go_simp)
  have HB := Lib.hid (((Below.refl w.heap.size w).alloc (Nat.le_refl _) _).trans (hb1.mono (by simp)))
  have HO := Lib.hid (own_mono ho (show w.heap.size + 1 ≤ _ by simp))
  clear ho hb1
  go_wp2_with fail
  refine bodyPost_ret (v := .tuple #[.agg #[.slice av (pinL ss.length ss j).length cv], .bool true]) (by simp [results, Try.results32, go_sem, c1]) rfl ⟨_, rfl, ?_, ?_⟩
  · exact own_mono (ownsRow_setCell_below HO.out (a := ⟨w.heap.size, 0, none⟩) (by simp) _) (Nat.le_succ _)
  · exact HB.out.setCell (p := ⟨w.heap.size, 0, none⟩) (Nat.le_refl _) _

set_option maxHeartbeats 1000000 in
theorem spec_ProveIn (a : Option Addr) (cap : Nat) (ss : List ByteArray) (k : Int) (w : World) (hrow : Rw w a (strs ss)) (hc1 : ss.length ≤ cap) (hc2 : cap ≤ 9223372036854775807) (hn : ss.length ≤ 1048576) (hsz : ∀ s ∈ ss, s.size ≤ 9223372036854775807) :
    Calls Try.prog 31 #[.slice a ss.length cap, .int .i64 k] w (MadeProof (ProveInR ss k).1 (ProveInR ss k).2 w) := by
  have hl := fun wx (hw : Rw wx a (strs ss)) => l13Log_any a cap ss wx hw hn hsz
  have HR := Lib.hid hrow
  cases hb : logB ss with
  | false =>
    have hf : ProveInR ss k = ([], false) := by unfold ProveInR; rw [hb]; rfl
    rw [hf]
    rw [hb] at hl
    have HL2 := Lib.hid hl
    clear hf hrow hsz hb hl
    go_enter Try.func31, Try.ntmps31
    go_wp2_with fail
    refine (HL2.out _ (HR.out.alloc _)).mono ?_
    rintro e w' ⟨rfl, rfl⟩
    go_wp2_with fail
    exact bodyPost_ret (v := .tuple #[.agg #[.slice none 0 0], .bool false]) (by simp [results, Try.results31, go_sem]) rfl ⟨_, rfl, World.ownsRow_nil _ _ _ _, (Below.refl _ _).alloc (Nat.le_refl _) _⟩
  | true =>
  have hlen := logB_len hb
  rw [hb] at hl
  have HL2 := Lib.hid hl
  by_cases hk0 : k < 0
  · have hf : ProveInR ss k = ([], false) := by unfold ProveInR; rw [inB_no (n := k) (by omega)]; simp
    rw [hf]
    clear hf hrow hsz hb hl
    go_enter Try.func31, Try.ntmps31
    go_wp2_with fail
    refine (HL2.out _ (HR.out.alloc _)).mono ?_
    rintro e w' ⟨rfl, rfl⟩
    go_wp2_with fail
    exact bodyPost_ret (v := .tuple #[.agg #[.slice none 0 0], .bool false]) (by simp [results, Try.results31, go_sem]) rfl ⟨_, rfl, World.ownsRow_nil _ _ _ _, (Below.refl _ _).alloc (Nat.le_refl _) _⟩
  by_cases hk1 : (ss.length : Int) ≤ k
  · have hf : ProveInR ss k = ([], false) := by unfold ProveInR; rw [inB_no (n := k) (by omega)]; simp
    rw [hf]
    clear hf hrow hsz hb hl
    go_enter Try.func31, Try.ntmps31
    go_wp2_with fail
    refine (HL2.out _ (HR.out.alloc _)).mono ?_
    rintro e w' ⟨rfl, rfl⟩
    go_wp2_with fail
    exact bodyPost_ret (v := .tuple #[.agg #[.slice none 0 0], .bool false]) (by simp [results, Try.results31, go_sem]) rfl ⟨_, rfl, World.ownsRow_nil _ _ _ _, (Below.refl _ _).alloc (Nat.le_refl _) _⟩
  have hk : inB k 0 ((ss.length : Int) - 1) = true := inB_yes ⟨by omega, by omega⟩
  have hk2 := inB_of hk
  obtain ⟨j, rfl⟩ := Int.eq_ofNat_of_zero_le hk2.1
  have hf : ProveInR ss (j : Int) = (pinL ss.length ss j, true) := by unfold ProveInR; rw [hk, hb]; rfl
  rw [hf]
  have HP := Lib.hid (fun wx (hw : Rw wx a (strs ss)) => spec_proveIn ss.length a cap ss.length j ss wx rfl (Nat.le_refl _) (by omega) (by omega) hw hc1 hc2 (by omega) hn hsz)
  clear hf hrow hsz hb hl hk2
  go_enter Try.func31, Try.ntmps31
  go_wp2_with fail
  refine (HL2.out _ (HR.out.alloc _)).mono ?_
  rintro e w' ⟨rfl, rfl⟩
  go_wp2_with fail
  refine (HP.out _ (HR.out.alloc _)).mono ?_
  rintro e w1 ⟨v, rfl, ho, hb1⟩
  obtain ⟨av, cv, rfl⟩ := form_of_own ho
  have c1 : w1.cell? ⟨w.heap.size, 0, none⟩ = some (.slice none 0 0) := (hb1.cell (p := ⟨w.heap.size, 0, none⟩) (by simp)).trans (by go_simp)
  have f1 : w1.frozen? ⟨w.heap.size, 0, none⟩ = false := (hb1.frozen (p := ⟨w.heap.size, 0, none⟩) (by simp)).trans (by go_simp)
  have HB := Lib.hid (((Below.refl w.heap.size w).alloc (Nat.le_refl _) _).trans (hb1.mono (by simp)))
  have HO := Lib.hid (own_mono ho (show w.heap.size + 1 ≤ _ by simp))
  clear ho hb1
  go_wp2_with fail
  refine bodyPost_ret (v := .tuple #[.agg #[.slice av (pinL ss.length ss j).length cv], .bool true]) (by simp [results, Try.results31, go_sem, c1]) rfl ⟨_, rfl, ?_, ?_⟩
  · exact own_mono (ownsRow_setCell_below HO.out (a := ⟨w.heap.size, 0, none⟩) (by simp) _) (Nat.le_succ _)
  · exact HB.out.setCell (p := ⟨w.heap.size, 0, none⟩) (Nat.le_refl _) _

end Go.Proofs.Ytdhkagabkhepgaa
