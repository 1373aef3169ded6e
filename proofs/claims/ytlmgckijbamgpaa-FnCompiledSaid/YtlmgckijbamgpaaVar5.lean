/- The bytes of a number as a text: the walks. -/
import Derived.Test.YtlmgckijbamgpaaVar4
namespace Go.Proofs.Ytlmgckijbamgpaa
set_option linter.unusedVariables false
set_option linter.unusedSimpArgs false
open Go.ChangeShapes Go.WideShapes Go.ChangeAt Go.RowKit
set_option maxRecDepth 100000

theorem strOf_byts (bs : List UInt8) : strOfNums (bs.map fun x => (x.toNat : Int)) = ⟨bs.toArray⟩ := by
  unfold strOfNums
  congr 1
  rw [List.map_map]
  congr 1
  have : (fun n : Int => UInt8.ofNat n.toNat) ∘ (fun x : UInt8 => (x.toNat : Int)) = id := by funext x; simp
  rw [this, List.map_id]
theorem conv_own {w : World} {base g n cap : Nat} {bs : List UInt8} (h : w.ownsRow base 5 1 (.slice (some ⟨g, 0, none⟩) n cap) n (byts bs)) (hn : bs.length = n) : (convert 38 9 (.slice (some ⟨g, 0, none⟩) n cap)).run Try.prog w = .ok (.string ⟨bs.toArray⟩) w := by
  subst hn
  rw [← strOf_byts]
  refine run_convert_bytes_arg w 38 5 Try.underlying38 Try.underlying5 g 0 bs.length cap (bs.map fun x => (x.toNat : Int)) (by simp) (fun i hi => ?_) 9 Try.underlying9
  have hb : (byts bs)[i]? = some (.int .u8 ((bs[i]'hi).toNat : Int)) := by unfold byts; rw [List.getElem?_map, List.getElem?_eq_getElem hi]; rfl
  rcases own_rw h with h0 | ⟨b, off, hv, hl, hc⟩
  · rw [h0] at hb; cases hb
  · simp only [Option.some.injEq, Addr.mk.injEq, and_true] at hv
    obtain ⟨rfl, rfl⟩ := hv
    rw [hc i _ hb]
    simp [List.getD, List.getElem?_eq_getElem hi]
def R_Varint (n : Int) : ByteArray × Bool := if inR n 0 2000000001 = true then (⟨(vb n.toNat).toArray⟩, true) else (⟨#[]⟩, false)
theorem vb_len (n : Nat) : 1 ≤ (vb n).length ∧ (vb n).length ≤ 6 := vbF_len 5 n
set_option maxHeartbeats 400000 in
theorem spec_VarintOf (n : Int) (w : World) : Calls Try.prog 19 #[.int .i64 n] w fun e w' => e = .returned (.tuple #[.string (R_Varint n).1, .bool (R_Varint n).2]) ∧ Below w.heap.size w w' := by
  have H := Lib.hid (spec_in n 0 2000000001 w)
  unfold R_Varint
  cases g : inR n 0 2000000001 with
  | false =>
    rw [g] at H
    rw [if_neg (by simp)]
    go_enter Try.func19, Try.ntmps19
    go_wp2_with fail
    refine H.out.mono ?_
    rintro e w' ⟨rfl, rfl⟩
    go_wp2_with fail
    go_ret2
    exact ⟨rfl, Below.refl _ _⟩
  | true =>
    rw [g] at H
    rw [if_pos rfl]
    have hr := inR_iff.1 g
    obtain ⟨k, rfl⟩ : ∃ k : Nat, n = k := ⟨n.toNat, by omega⟩
    rw [Int.toNat_natCast]
    have H2 := Lib.hid (spec_varint k w (by omega))
    go_enter Try.func19, Try.ntmps19
    go_wp2_with fail
    refine H.out.mono ?_
    rintro e w' ⟨rfl, rfl⟩
    go_wp2_with fail
    refine H2.out.mono ?_
    rintro e w' ⟨rfl, hb⟩
    have HB := Lib.hid hb
    clear hb
    go_wp2_with fail
    go_ret2
    exact ⟨rfl, HB.out⟩
set_option maxHeartbeats 400000 in
theorem impl_VarintOf (n : Int) (w : World) : Calls Try.prog 18 #[.int .i64 n] w fun e w' => e = .returned (.tuple #[.string (R_Varint n).1, .bool (R_Varint n).2]) ∧ Below w.heap.size w w' := by
  have H := Lib.hid (impl_within n 0 2000000001 w)
  unfold R_Varint
  cases g : inR n 0 2000000001 with
  | false =>
    rw [g] at H
    rw [if_neg (by simp)]
    go_enter Try.func18, Try.ntmps18
    go_wp2_with fail
    refine H.out.mono ?_
    rintro e w' ⟨rfl, rfl⟩
    go_wp2_with fail
    go_ret2
    exact ⟨rfl, Below.refl _ _⟩
  | true =>
    rw [g] at H
    rw [if_pos rfl]
    have hr := inR_iff.1 g
    obtain ⟨k, rfl⟩ : ∃ k : Nat, n = k := ⟨n.toNat, by omega⟩
    rw [Int.toNat_natCast]
    have H2 := Lib.hid (impl_varint w.heap.size k (.slice none 0 0) [] w (World.ownsRow_nil _ _ _ _) (Nat.le_refl _) (by omega) (by simp))
    have hvl := vb_len k
    go_enter Try.func18, Try.ntmps18
    go_wp2_with fail
    refine H.out.mono ?_
    rintro e w' ⟨rfl, rfl⟩
    go_wp2_with fail
    refine H2.out.mono ?_
    rintro e w2 ⟨v, rfl, ho, hb⟩
    have HB := Lib.hid hb
    clear hb
    rw [List.nil_append] at ho
    obtain ⟨g2, c2, rfl, _, _⟩ := ho.form (by omega : 1 ≤ (vb k).length)
    have hcv := conv_own ho rfl
    clear ho
    go_wp2_with fail
    go_ret2
    exact ⟨rfl, HB.out⟩
end Go.Proofs.Ytlmgckijbamgpaa
