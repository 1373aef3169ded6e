/- The contracts of the laws' helpers over TrieNode, by kinds. (Written by genhelp.py.) -/
import Derived.Test.YteknmjebokimjaaDoorHIntS
import Derived.Test.YteknmjebokimjaaDoorHStr
import Derived.Lib.SmallJoins
import Derived.Deep.RegionHeld3
namespace Go.Proofs.YteknmjebokimjaaDoor
set_option linter.unusedVariables false
open Go.ChangeShapes Go.WideShapes Go.ChangeAt Go.RowKit
set_option maxRecDepth 100000


def kTrieNode : Kind (ByteArray × Int × (List Int)) := kPair kStr (kPair kInt kIntS)
theorem kTrieNode_ok : kTrieNode.Ok := kPair_ok kStr_ok (kPair_ok kInt_ok (kIntS_ok))


theorem TrieNode_rd {B : Nat} {w : World} {v : List Value} {x : (ByteArray × Int × (List Int))} (h : kTrieNode.rd B w v x) : ∃ a2 cap2, v = [Value.string x.1, Value.int .i64 x.2.1, Value.slice a2 x.2.2.length cap2] ∧ x.1.size ≤ maxLen ∧ (Lit.int .i64 x.2.1).wf = true ∧ kIntS.rd B w [.slice a2 x.2.2.length cap2] x.2.2 := by
  obtain ⟨_, _, rfl, ⟨rfl, h0⟩, ⟨_, _, rfl, ⟨rfl, h1⟩, ⟨a2, cap2, vss2, rfl, h2⟩⟩⟩ := h
  exact ⟨a2, cap2, rfl, h0, h1, ⟨a2, cap2, vss2, rfl, h2⟩⟩


theorem reads_TrieNode : Reads Tryd.prog 67 3 kTrieNode.rd := readsK_struct Tryd.underlying67 (by kernel_rfl) (readsF_cons (off := 0) (m := 2) (K := kStr) (L := (kPair kInt kIntS)) rfl (readsK_str mt Tryd.underlying9 (by kernel_rfl)) (readsF_cons (off := 1) (m := 1) (K := kInt) (L := kIntS) rfl (readsK_int Tryd.underlying3 (by kernel_rfl)) (readsF_one rfl reads_IntS)))


theorem arg_TrieNode {H : Type} {enc : TypeId × Value → H} {W : World} {r : Reach} {b0 : Nat} {v : Value} {d : DataW H} {ps : List MemPlace} (hval : Value.okWide Tryd.prog W r b0 67 v) (h : DataW.Trod enc Tryd.prog W 0 (fun _ => true) true 67 v d ps) : ∃ x, IsK kTrieNode (fun cs => .agg cs.toArray) W v x := argAggK Tryd.underlying67 reads_TrieNode hval h


set_option maxHeartbeats 1000000 in
theorem sz_TrieNode {cs : List Value} {x : (ByteArray × Int × (List Int))} {w : World} (l : Int) (h : kTrieNode.rd w.heap.size w cs x) (h0 : 0 ≤ l) (h1 : l ≤ 1048576) :
    Calls Tryd.prog 50 #[.agg cs.toArray, .int .i64 l] w fun e w' => e = .returned (.int .i64 (szR l (kTrieNode.wt x))) ∧ Below w.heap.size w w' := by
  obtain ⟨a2, cap2, rfl, h0, h1, h2⟩ := TrieNode_rd h
  unfold maxLen at h0
  clear h
  have hw : kTrieNode.wt x = x.1.size + kIntS.wt x.2.2 := by show x.1.size + (0 + (kIntS.wt x.2.2)) = _; omega
  rw [hw]; clear hw
  have H2 := Lib.hid (fun (lx : Int) (wx : World) (hb : Below w.heap.size w wx) (g0 : 0 ≤ lx) (g1 : lx ≤ 1048576) => sz_IntS lx (kIntS_ok.later h2 hb) g0 g1)
  clear h2
  generalize hn2 : kIntS.wt x.2.2 = n2 at *
  clear hn2
  by_cases g0 : (x.1.size : Int) ≤ l
  case neg =>
    go_enter Tryd.func50, Tryd.ntmps50
    go_wp2_with fail
    go_ret
    exact ⟨ret_int (szR_not (by omega)).symm, (Below.refl _ _).alloc (Nat.le_refl _) _⟩
  by_cases g2 : (n2 : Int) ≤ l - (x.1.size : Int)
  case neg =>
    have G2 : szR (l - (x.1.size : Int)) n2 = -1 := szR_not g2
    go_enter Tryd.func50, Tryd.ntmps50
    go_wp2_with fail
    refine ((H2.out (l - (x.1.size : Int)) _ ((Below.refl _ _).alloc (Nat.le_refl _) _) (by omega) (by omega))).mono ?_
    rw [G2]
    rintro e w3 ⟨rfl, hb2⟩
    have HB2 := Lib.hid (box_step (box_start w _) hb2); clear hb2
    have hc2_0 := box_cell HB2.out 0
    have hc2_1 := box_cell HB2.out 1
    have hc2_2 := box_cell HB2.out 2
    go_wp2_with fail
    go_ret
    exact ⟨ret_int (szR_not (by omega)).symm, box_below HB2.out⟩
  have G2 : szR (l - (x.1.size : Int)) n2 = l - (x.1.size : Int) - (n2 : Int) := szR_fit g2
  go_enter Tryd.func50, Tryd.ntmps50
  go_wp2_with fail
  refine ((H2.out (l - (x.1.size : Int)) _ ((Below.refl _ _).alloc (Nat.le_refl _) _) (by omega) (by omega))).mono ?_
  rw [G2]
  rintro e w3 ⟨rfl, hb2⟩
  have HB2 := Lib.hid (box_step (box_start w _) hb2); clear hb2
  have hc2_0 := box_cell HB2.out 0
  have hc2_1 := box_cell HB2.out 1
  have hc2_2 := box_cell HB2.out 2
  go_wp2_with fail
  go_ret
  exact ⟨ret_int (by rw [szR_fit (by omega)]; try omega), box_below HB2.out⟩


set_option maxHeartbeats 1000000 in
theorem eq_TrieNode {cs cs' : List Value} {x : (ByteArray × Int × (List Int))} {w : World} (h : kTrieNode.rd w.heap.size w cs x) (h' : kTrieNode.rd w.heap.size w cs' x) :
    Calls Tryd.prog 47 #[.agg cs.toArray, .agg cs'.toArray] w fun e w' => e = .returned (.bool true) ∧ Below w.heap.size w w' := by
  obtain ⟨a2, cap2, rfl, _, _, h2⟩ := TrieNode_rd h
  obtain ⟨a2', cap2', rfl, _, _, h2'⟩ := TrieNode_rd h'
  clear h h'
  have H2 := Lib.hid (fun (wx : World) (hb : Below w.heap.size w wx) => eq_IntS (kIntS_ok.later h2 hb) (kIntS_ok.later h2' hb)); clear h2 h2'
  have HB0 := Lib.hid (box2_start w (.cells #[Value.string x.1, Value.int .i64 x.2.1, Value.slice a2 x.2.2.length cap2] 58) (.cells #[Value.string x.1, Value.int .i64 x.2.1, Value.slice a2' x.2.2.length cap2'] 58))
  go_enter Tryd.func47, Tryd.ntmps47
  go_wp2_with fail
  refine (H2.out _ (box2_below HB0.out)).mono ?_
  rintro e w3 ⟨rfl, hb2⟩
  have HB3 := Lib.hid (box2_step HB0.out hb2); clear hb2
  have hp2_0 := box2_a HB3.out 0; have hq2_0 := box2_b HB3.out 0
  have hp2_1 := box2_a HB3.out 1; have hq2_1 := box2_b HB3.out 1
  have hp2_2 := box2_a HB3.out 2; have hq2_2 := box2_b HB3.out 2
  go_wp2_with fail
  go_ret
  exact ⟨rfl, box2_below HB3.out⟩


set_option maxHeartbeats 1000000 in
theorem to_TrieNode {cs : List Value} {x : (ByteArray × Int × (List Int))} {w : World} (h : kTrieNode.rd w.heap.size w cs x) (hw : kTrieNode.wt x ≤ 1048576) :
    Calls Tryd.prog 55 #[.agg cs.toArray] w (Made kTrieNode (fun cs => .agg cs.toArray) x w) := by
  obtain ⟨a2, cap2, rfl, h0, h1, h2⟩ := TrieNode_rd h
  have hw2 : x.1.size + (0 + (kIntS.wt x.2.2)) ≤ 1048576 := hw
  have H2 := Lib.hid (fun (wx : World) (hb : Below w.heap.size w wx) => to_IntS (kIntS_ok.later h2 hb) (by omega))
  have HP0 := Lib.hid h0
  have HP1 := Lib.hid h1
  clear h hw hw2 h0 h1 h2
  go_enter Tryd.func55, Tryd.ntmps55
  go_wp2_with fail
  refine (H2.out _ (below_3 w _ _ _)).mono ?_
  rintro e w3 ⟨cs3, fp3, he, ho, hnd, hge, hb⟩
  have hrd3 := kIntS_ok.ord ho (B := w3.heap.size) (kIntS_ok.olt ho)
  obtain ⟨c3, ccap3, _, rfl, _⟩ := hrd3
  change e = .returned (.slice c3 x.2.2.length ccap3) at he
  subst he
  have hsz3 : w.heap.size + 3 ≤ w3.heap.size := by have := hb.size; simp at this; omega
  have HB3 := Lib.hid ((below_3 w _ _ _).trans (hb.mono (by simp; omega)))
  have HG3 : Hid (∀ b ∈ fp3, w.heap.size + 3 ≤ b) := Lib.hid fun b hm => by have := hge b hm; simp at this; omega
  have b3_0 : w3.cell? ⟨w.heap.size, 0, none⟩ = some (Value.string x.1) := (hb.cell (p := ⟨w.heap.size, 0, none⟩) (by simp <;> omega)).trans (by go_simp)
  have s3_0 : w3.cell? ⟨w.heap.size + 1, 0, none⟩ = some (Value.string { data := #[] }) := (hb.cell (p := ⟨w.heap.size + 1, 0, none⟩) (by simp <;> omega)).trans (by go_simp)
  have o3_0 : w3.cell? ⟨w.heap.size + 2, 0, none⟩ = some (Value.string x.1) := (hb.cell (p := ⟨w.heap.size + 2, 0, none⟩) (by simp <;> omega)).trans (by go_simp)
  have sf3_0 : w3.frozen? ⟨w.heap.size + 1, 0, none⟩ = false := (hb.frozen (p := ⟨w.heap.size + 1, 0, none⟩) (by simp <;> omega)).trans (by go_simp)
  have of3_0 : w3.frozen? ⟨w.heap.size + 2, 0, none⟩ = false := (hb.frozen (p := ⟨w.heap.size + 2, 0, none⟩) (by simp <;> omega)).trans (by go_simp)
  have b3_1 : w3.cell? ⟨w.heap.size, 1, none⟩ = some (Value.int .i64 x.2.1) := (hb.cell (p := ⟨w.heap.size, 1, none⟩) (by simp <;> omega)).trans (by go_simp)
  have s3_1 : w3.cell? ⟨w.heap.size + 1, 1, none⟩ = some (Value.int .i64 0) := (hb.cell (p := ⟨w.heap.size + 1, 1, none⟩) (by simp <;> omega)).trans (by go_simp)
  have o3_1 : w3.cell? ⟨w.heap.size + 2, 1, none⟩ = some (Value.int .i64 x.2.1) := (hb.cell (p := ⟨w.heap.size + 2, 1, none⟩) (by simp <;> omega)).trans (by go_simp)
  have sf3_1 : w3.frozen? ⟨w.heap.size + 1, 1, none⟩ = false := (hb.frozen (p := ⟨w.heap.size + 1, 1, none⟩) (by simp <;> omega)).trans (by go_simp)
  have of3_1 : w3.frozen? ⟨w.heap.size + 2, 1, none⟩ = false := (hb.frozen (p := ⟨w.heap.size + 2, 1, none⟩) (by simp <;> omega)).trans (by go_simp)
  have b3_2 : w3.cell? ⟨w.heap.size, 2, none⟩ = some (Value.slice a2 x.2.2.length cap2) := (hb.cell (p := ⟨w.heap.size, 2, none⟩) (by simp <;> omega)).trans (by go_simp)
  have s3_2 : w3.cell? ⟨w.heap.size + 1, 2, none⟩ = some (Value.slice none 0 0) := (hb.cell (p := ⟨w.heap.size + 1, 2, none⟩) (by simp <;> omega)).trans (by go_simp)
  have o3_2 : w3.cell? ⟨w.heap.size + 2, 2, none⟩ = some (Value.slice none 0 0) := (hb.cell (p := ⟨w.heap.size + 2, 2, none⟩) (by simp <;> omega)).trans (by go_simp)
  have sf3_2 : w3.frozen? ⟨w.heap.size + 1, 2, none⟩ = false := (hb.frozen (p := ⟨w.heap.size + 1, 2, none⟩) (by simp <;> omega)).trans (by go_simp)
  have of3_2 : w3.frozen? ⟨w.heap.size + 2, 2, none⟩ = false := (hb.frozen (p := ⟨w.heap.size + 2, 2, none⟩) (by simp <;> omega)).trans (by go_simp)
  have HL3 : Hid (∀ b ∈ fp3, b < w3.heap.size) := Lib.hid (kIntS_ok.olt ho)
  have HO3_3 := Lib.hid ho; have HN3 := Lib.hid hnd
  clear ho hnd hge hb
  go_wp2_with fail
  refine bodyPost_ret (v := .agg #[Value.string x.1, Value.int .i64 x.2.1, .slice c3 x.2.2.length ccap3]) (by simp [results, Tryd.results55, go_sem, s3_0, s3_1, s3_2, o3_0, o3_1, o3_2]) rfl ?_
  have same : ∀ b, w.heap.size + 3 ≤ b → (((((w3.setCell ⟨w.heap.size + 2, 2, none⟩ (.slice c3 x.2.2.length ccap3)).setCell ⟨w.heap.size + 1, 0, none⟩ (Value.string x.1)).setCell ⟨w.heap.size + 1, 1, none⟩ (Value.int .i64 x.2.1)).setCell ⟨w.heap.size + 1, 2, none⟩ (.slice c3 x.2.2.length ccap3))).heap[b]? = w3.heap[b]? := fun b hm => by rw [Below.heap_setCell _ _ _ _ (by show b ≠ w.heap.size + 1; omega), Below.heap_setCell _ _ _ _ (by show b ≠ w.heap.size + 1; omega), Below.heap_setCell _ _ _ _ (by show b ≠ w.heap.size + 1; omega), Below.heap_setCell _ _ _ _ (by show b ≠ w.heap.size + 2; omega)]
  have own3 := kIntS_ok.oframe HO3_3.out fun b hm => same b (by have := HG3.out b hm; omega)
  refine ⟨[_, _, _], [] ++ ([] ++ (fp3)), rfl, ⟨[], [] ++ (fp3), [_], [_, _], rfl, rfl, ⟨rfl, rfl, HP0.out⟩, ⟨[], fp3, [_], [_], rfl, rfl, ⟨rfl, rfl, HP1.out⟩, own3⟩⟩, ?_, ?_, ?_⟩
  · try simp only [List.nil_append, List.append_nil]
    exact HN3.out
  · intro b hm
    try simp only [List.nil_append, List.append_nil, List.mem_append] at hm
    have := HG3.out b hm; omega
  · exact ((((HB3.out.setCell (p := ⟨w.heap.size + 2, 2, none⟩) (by show w.heap.size ≤ w.heap.size + 2; omega) _).setCell (p := ⟨w.heap.size + 1, 0, none⟩) (by show w.heap.size ≤ w.heap.size + 1; omega) _).setCell (p := ⟨w.heap.size + 1, 1, none⟩) (by show w.heap.size ≤ w.heap.size + 1; omega) _).setCell (p := ⟨w.heap.size + 1, 2, none⟩) (by show w.heap.size ≤ w.heap.size + 1; omega) _)


theorem TrieNode_ow {fp : List Nat} {w : World} {v : List Value} {x : (ByteArray × Int × (List Int))} (h : kTrieNode.ow fp w v x) : ∃ a2 cap2, v = [Value.string x.1, Value.int .i64 x.2.1, .slice a2 x.2.2.length cap2] ∧ x.1.size ≤ maxLen ∧ (Lit.int .i64 x.2.1).wf = true ∧ kIntS.ow fp w [.slice a2 x.2.2.length cap2] x.2.2 := by
  obtain ⟨f0, g0, _, _, hfp0, rfl, ⟨rfl, rfl, h0⟩, ⟨f1, g1, _, _, hfp1, rfl, ⟨rfl, rfl, h1⟩, ⟨sv, vss, fps, rfl, ho, hr⟩⟩⟩ := h
  simp only [List.nil_append] at hfp0; subst hfp0
  simp only [List.nil_append] at hfp1; subst hfp1
  obtain ⟨a, cap, rfl⟩ := form_of_own ho
  exact ⟨a, cap, rfl, h0, h1, ⟨_, vss, fps, rfl, ho, hr⟩⟩


theorem TrieNode_owm {fp : List Nat} {w : World} {x : (ByteArray × Int × (List Int))} {a : Option Addr} {m cap : Nat} (h0 : x.1.size ≤ maxLen) (h1 : (Lit.int .i64 x.2.1).wf = true) (h2 : kIntS.ow fp w [.slice a m cap] x.2.2) : kTrieNode.ow fp w [Value.string x.1, Value.int .i64 x.2.1, .slice a m cap] x := ⟨[], fp, [_], [_, _], rfl, rfl, ⟨rfl, rfl, h0⟩, ⟨[], fp, [_], [_], rfl, rfl, ⟨rfl, rfl, h1⟩, h2⟩⟩


end Go.Proofs.YteknmjebokimjaaDoor
