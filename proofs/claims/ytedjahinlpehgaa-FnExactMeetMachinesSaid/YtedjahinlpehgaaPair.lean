/- The contracts of the reference's walk through the pairs of states of two machines. -/
import Derived.Test.YtedjahinlpehgaaCls
import Derived.Test.YtedjahinlpehgaaTurn
namespace Go.Proofs.Ytedjahinlpehgaa
set_option linter.unusedVariables false
open Go.ChangeShapes Go.WideShapes Go.ChangeAt Go.RowKit
set_option maxRecDepth 100000

def prC (p : Pr) : List Value := [.int .i64 p.1, .int .i64 p.2.1, .string p.2.2]
/-- the cells of a row of pairs -/
def PRow (w : World) (q : Option Addr) (o : List Pr) : Prop :=
  ∃ b off, q = some ⟨b, off, none⟩ ∧ b < w.heap.size ∧ ∀ (i : Nat) (p : Pr), o[i]? = some p → w.cell? ⟨b, off + i * 3, none⟩ = some (.int .i64 p.1) ∧ w.cell? ⟨b, off + i * 3 + 1, none⟩ = some (.int .i64 p.2.1) ∧ w.cell? ⟨b, off + i * 3 + 2, none⟩ = some (.string p.2.2)
theorem PRow.later {w w' : World} {q : Option Addr} {o : List Pr} (h : PRow w q o) (hb : Below w.heap.size w w') : PRow w' q o := by
  obtain ⟨b, off, rfl, hl, hc⟩ := h
  refine ⟨b, off, rfl, Nat.lt_of_lt_of_le hl hb.size, fun i p hp => ?_⟩
  obtain ⟨h1, h2, h3⟩ := hc i p hp
  exact ⟨below_later hb h1, below_later hb h2, below_later hb h3⟩
theorem pr_lens (o : List Pr) : Lens 3 (o.map prC) := by intro v hv; obtain ⟨x, _, rfl⟩ := List.mem_map.1 hv; rfl
theorem own_prow {w : World} {base e g n cap : Nat} {o : List Pr} (h : w.ownsRow base e 3 (.slice (some ⟨g, 0, none⟩) n cap) n (o.map prC).flatten) : PRow w (some ⟨g, 0, none⟩) o := by
  refine ⟨g, 0, rfl, (h.lt g rfl).2, fun i p hp => ?_⟩
  have hv : (o.map prC)[i]? = some (prC p) := by rw [List.getElem?_map, hp]; rfl
  have key : ∀ j u, (prC p)[j]? = some u → w.cell? ⟨g, 0 + i * 3 + j, none⟩ = some u := by
    intro j u hu
    have hf := flat_get (pr_lens o) i j (prC p) u hv hu
    have hlt := (List.getElem?_eq_some_iff.1 hf).1
    rw [h.1] at hlt
    rw [Nat.zero_add, h.cellAt _ hlt]; exact hf
  exact ⟨key 0 _ rfl, key 1 _ rfl, key 2 _ rfl⟩
theorem any_no {α : Type} {p : α → Bool} {l : List α} {i : Nat} {x : α} (h : (l.take i).any p = false) (hx : l[i]? = some x) (hp : p x = false) : (l.take (i + 1)).any p = false := by
  rw [take_next l i x hx, List.any_append, h]; simp [hp]
theorem idxP_here {o : List Pr} {i : Nat} {p : Pr} {x y : Int} (h : (o.take i).any (isK x y) = false) (hp : o[i]? = some p) (h1 : p.1 = x) (h2 : p.2.1 = y) : idxP o x y = (i : Int) := by
  obtain ⟨hi, rfl⟩ := List.getElem?_eq_some_iff.1 hp
  exact fidx_here _ o pr0 i hi h (by simp [List.getD, hi, isK, h1, h2])
set_option maxHeartbeats 1000000 in
theorem spec_at (q : Option Addr) (qc : Nat) (o : List Pr) (x y : Int) (w : World) (hr : PRow w q o) (hn : o.length ≤ 1000) :
    Calls Try.prog 54 #[.slice q o.length qc, .int .i64 x, .int .i64 y] w fun e w' => e = .returned (.int .i64 (idxP o x y)) ∧ Below w.heap.size w w' := by
  obtain ⟨b, off, rfl, hb, hc⟩ := hr
  have HC := Lib.hid hc
  clear hc
  go_enter Try.func54, Try.ntmps54
  go_wp2_with fail
  go_loopw [11] (fun iv wr => ∃ i : Nat, i ≤ o.length ∧ iv = .int .i64 (i : Int) ∧ Hid ((o.take i).any (isK x y) = false) ∧ Hid (Below w.heap.size w wr)) (fun iv _ => o.length - (intOf iv).toNat)
  case atStart => exact ⟨0, by omega, rfl, Lib.hid rfl, Lib.hid (Below.refl _ _)⟩
  case round =>
    obtain ⟨w1, rfl⟩ : ∃ z : World, z = wr := ⟨_, rfl⟩
    obtain ⟨i, hi, rfl, HA, HB⟩ := hrel
    by_cases hil : i < o.length
    case neg =>
      obtain rfl : i = o.length := by omega
      have HE : Hid (idxP o x y = -1) := Lib.hid (fidx_none _ _ (by have := HA.out; rwa [List.take_length] at this))
      go_wp2_with fail
      go_ret
      exact ⟨ret_int HE.out.symm, HB.out⟩
    obtain ⟨p, hp⟩ : ∃ p, o[i]? = some p := ⟨o[i], List.getElem?_eq_getElem hil⟩
    obtain ⟨c0, c1, c2⟩ := HC.out i p hp
    replace c0 := below_cellk HB.out c0 hb; replace c1 := below_cellk HB.out c1 hb; replace c2 := below_cellk HB.out c2 hb
    have HHIT : Hid (p.1 = x → p.2.1 = y → idxP o x y = (i : Int)) := Lib.hid (fun h1 h2 => idxP_here HA.out hp h1 h2)
    have HMISS : Hid (¬ (p.1 = x ∧ p.2.1 = y) → (o.take (i + 1)).any (isK x y) = false) := Lib.hid (fun h => any_no HA.out hp (decide_eq_false h))
    obtain ⟨p0, p1, p2⟩ := p
    simp only at c0 c1 c2 HHIT HMISS
    have HB2 := Lib.hid (ralloc HB.out (.cells #[.int .i64 p0, .int .i64 p1, .string p2] 65))
    clear hp HA HB
    by_cases h1 : p0 = x
    · have e1 : (p0 == x) = true := by simp [h1]
      by_cases h2 : p1 = y
      · have e2 : (p1 == y) = true := by simp [h2]
        have HE := Lib.hid (HHIT.out h1 h2)
        clear h1 h2
        go_wp2_with fail
        go_ret
        exact ⟨ret_int HE.out.symm, HB2.out⟩
      · have e2 : (p1 == y) = false := by simp [h2]
        have HE := Lib.hid (HMISS.out (fun h => h2 h.2))
        clear h1 h2
        go_wp2_with fail
        go_roundw
        case rel => exact ⟨i + 1, by omega, by go_num, HE, HB2⟩
        case measure => (simp [intOf]; try omega)
    · have e1 : (p0 == x) = false := by simp [h1]
      have HE := Lib.hid (HMISS.out (fun h => h1 h.1))
      clear h1
      go_wp2_with fail
      go_roundw
      case rel => exact ⟨i + 1, by omega, by go_num, HE, HB2⟩
      case measure => (simp [intOf]; try omega)
theorem Try.infoPr : (Try.prog.info? 65).map (fun i => (i.zero, i.size, i.bytes)) = some (some (.agg #[.int .i64 0, .int .i64 0, .string ByteArray.empty]), 3, 32) := by kernel_rfl
def OwnPrs (w : World) (o : List Pr) (e : Ending) (w' : World) : Prop := ∃ g cp, e = .returned (.slice (some ⟨g, 0, none⟩) o.length cp) ∧ w'.ownsRow w.heap.size 65 3 (.slice (some ⟨g, 0, none⟩) o.length cp) o.length (o.map prC).flatten ∧ Below w.heap.size w w'
theorem heap_alloc_old {w : World} {B : Nat} {x : Obj} (h : w.heap[B]? = some x) (o : Obj) : (w.alloc o).heap[B]? = some x :=
  (((Below.refl w.heap.size w).alloc (Nat.le_refl _) o).block B (Array.getElem?_eq_some_iff.1 h).1).trans h
theorem own_prW (W : World) (T : TypeId) : (W.alloc (.cells #[.int .i64 0, .int .i64 0, .string ByteArray.empty] T)).ownsRow W.heap.size T 3 (.slice (some ⟨W.heap.size, 0, none⟩) 1 1) 1 (([pr0] : List Pr).map prC).flatten :=
  ⟨rfl, .inr ⟨W.heap.size, 1, (prC pr0).toArray, rfl, Nat.le_refl _, heap_alloc_new _ _, Nat.le_refl _, by unfold maxLen; omega, rfl, rfl⟩⟩
set_option maxHeartbeats 4000000 in
theorem spec_pairs (ea eb ec ed : Option Addr) (eac ebc ecc edc : Nat) (A B : Mach) (w : World) (hA : MC w.heap.size w ea eb A) (hB : MC w.heap.size w ec ed B) (ha : GoodM A) (hb : GoodM B) (hc1 : A.1.length ≤ eac ∧ eac ≤ 9223372036854775807) (hc2 : B.1.length ≤ ecc ∧ ecc ≤ 9223372036854775807) :
    Calls Try.prog 53 #[.agg #[.slice ea A.1.length eac, .slice eb A.2.length ebc], .agg #[.slice ec B.1.length ecc, .slice ed B.2.length edc]] w (OwnPrs w (pairsR A B)) := by
  obtain ⟨i0, hi, hz0, hz1, hz2⟩ := info_parts Try.infoPr
  unfold OwnPrs
  have HGA := Lib.hid ha; have HGB := Lib.hid hb
  have HINV := Lib.hid (ordP_inv ha hb); have HLEN := Lib.hid (ordP_len ha hb)
  have HFOLD := Lib.hid (fun (i k : Nat) (hi : i < (ordP A B i).length) (hk : k ≤ 3) => by
    have hm : (ordP A B i).getD i pr0 ∈ ordP A B i := by
      have : (ordP A B i).getD i pr0 = (ordP A B i)[i] := by simp [List.getD, hi]
      rw [this]; exact List.getElem_mem hi
    exact ((ordP_inv ha hb i).mono (Nat.le_succ _)).fold ha hb ((ordP_inv ha hb i).rg _ hm) ((ordP_inv ha hb i).sz _ hm) k hk)
  obtain ⟨⟨bA, fA, rfl, hbA, hrA⟩, -⟩ := hA
  obtain ⟨⟨bB, fB, rfl, hbB, hrB⟩, -⟩ := hB
  have hn1 := ha.n1; have hn2 := hb.n1
  have HBX : Hid (∀ wx, Below (w.heap.size + 2) ((w.alloc (.cells #[.slice (some ⟨bA, fA, none⟩) A.1.length eac, .slice eb A.2.length ebc] 28)).alloc (.cells #[.slice (some ⟨bB, fB, none⟩) B.1.length ecc, .slice ed B.2.length edc] 28)) wx → wx.cell? ⟨w.heap.size, 0, none⟩ = some (.slice (some ⟨bA, fA, none⟩) A.1.length eac) ∧ wx.cell? ⟨w.heap.size + 1, 0, none⟩ = some (.slice (some ⟨bB, fB, none⟩) B.1.length ecc)) := Lib.hid fun wx hb => ⟨box2_a hb 0, box2_b hb 0⟩
  have HRA := Lib.hid hrA; have HRB := Lib.hid hrB
  have hO := own_prW ((w.alloc (.cells #[.slice (some ⟨bA, fA, none⟩) A.1.length eac, .slice eb A.2.length ebc] 28)).alloc (.cells #[.slice (some ⟨bB, fB, none⟩) B.1.length ecc, .slice ed B.2.length edc] 28)) 65
  have HB0 := Lib.hid (box2_start w (.cells #[.slice (some ⟨bA, fA, none⟩) A.1.length eac, .slice eb A.2.length ebc] 28) (.cells #[.slice (some ⟨bB, fB, none⟩) B.1.length ecc, .slice ed B.2.length edc] 28))
  rw [show ((w.alloc (.cells #[.slice (some ⟨bA, fA, none⟩) A.1.length eac, .slice eb A.2.length ebc] 28)).alloc (.cells #[.slice (some ⟨bB, fB, none⟩) B.1.length ecc, .slice ed B.2.length edc] 28)).heap.size = w.heap.size + 2 by simp] at hO
  have HO0 := Lib.hid hO
  have HBN := Lib.hid (HB0.out.alloc (by simp) (.cells #[.int .i64 0, .int .i64 0, .string ByteArray.empty] 65))
  clear hrA hrB ha hb hO
  go_enter Try.func53, Try.ntmps53
  go_wp2_with fail
  go_loopw [5, 6] (fun ov iv wr => ∃ (i g cp : Nat), i ≤ 144 ∧ i ≤ (ordP A B i).length ∧ iv = .int .i64 (i : Int) ∧ ov = .slice (some ⟨g, 0, none⟩) (ordP A B i).length cp ∧ Hid (wr.ownsRow (w.heap.size + 2) 65 3 (.slice (some ⟨g, 0, none⟩) (ordP A B i).length cp) (ordP A B i).length ((ordP A B i).map prC).flatten) ∧ Hid (Below (w.heap.size + 2) ((w.alloc (.cells #[.slice (some ⟨bA, fA, none⟩) A.1.length eac, .slice eb A.2.length ebc] 28)).alloc (.cells #[.slice (some ⟨bB, fB, none⟩) B.1.length ecc, .slice ed B.2.length edc] 28)) wr)) (fun _ iv _ => 144 - (intOf iv).toNat)
  case atStart => exact ⟨0, w.heap.size + 2, 1, by omega, by simp [ordP], rfl, rfl, HO0, HBN⟩
  case round =>
    clear HO0 HBN
    obtain ⟨w1, rfl⟩ : ∃ z : World, z = wr := ⟨_, rfl⟩
    obtain ⟨i, g, cp, hi144, hil, rfl, rfl, HO, HB⟩ := hrel
    have hlen := HLEN.out i
    by_cases hlt : i < (ordP A B i).length
    case neg =>
      have HE := Lib.hid (ordP_end (A := A) (B := B) i hi144 (by omega))
      go_wp2_with fail
      go_ret
      rw [HE.out]
      exact ⟨g, cp, rfl, own_mono HO.out (by omega), box2_below HB.out⟩
    have hpi : (ordP A B i)[i]? = some ((ordP A B i).getD i pr0) := by simp [List.getD, hlt]
    have hinv := HINV.out i
    have hrg := hinv.rg _ (List.mem_of_getElem? hpi)
    have hsz := hinv.sz _ (List.mem_of_getElem? hpi)
    obtain ⟨_, _, he, hgl, hcs⟩ := own_prow HO.out
    simp only [Option.some.injEq, Addr.mk.injEq, and_true] at he
    obtain ⟨rfl, rfl⟩ := he
    obtain ⟨p0, p1, p2⟩ := hcs i _ hpi
    have HNX := Lib.hid (ordP_next hlt)
    have HFI := Lib.hid (fun k hk => HFOLD.out i k hlt hk)
    have hi143 : i < 144 := by omega
    have HN2 : Hid (i + 1 ≤ (ordP A B (i + 1)).length) := Lib.hid (by
      rw [HNX.out]
      have := (foldP_pre A B ((ordP A B i).getD i pr0) (ordP A B i) 3).length_le
      omega)
    simp only [Nat.zero_add] at p0 p1 p2
    obtain ⟨hr1, hr2, hr3, hr4⟩ := hrg
    obtain ⟨b2A, f2A, c2A, hcA, hb2A, hdA1, hdA2, heA⟩ := HRA.out _ hr1 hr2
    obtain ⟨b2B, f2B, c2B, hcB, hb2B, hdB1, hdB2, heB⟩ := HRB.out _ hr3 hr4
    have HCA := Lib.hid hcA; have HCB := Lib.hid hcB; have HEA := Lib.hid heA; have HEB := Lib.hid heB
    clear hinv hpi hcs hcA hcB heA heB
    generalize hP : (ordP A B i).getD i pr0 = P at *
    have HPE := Lib.hid hP
    obtain ⟨x, y, s⟩ := P
    simp only at p0 p1 p2 hr1 hr2 hr3 hr4 hsz HCA HCB HEA HEB
    generalize ordP A B i = o at *
    clear hP
    have HALW1 : Hid (Below w1.heap.size w1 (w1.alloc (.cells #[.int .i64 x, .int .i64 y, .string s] 65))) := Lib.hid ((Below.refl _ _).alloc (Nat.le_refl _) _)
    have HBK := Lib.hid (box2_step HB.out HALW1.out)
    have HPC : Hid ((w1.alloc (.cells #[.int .i64 x, .int .i64 y, .string s] 65)).heap[w1.heap.size]? = some (.cells #[.int .i64 x, .int .i64 y, .string s] 65)) := Lib.hid (heap_alloc_new _ _)
    have HOK := Lib.hid (HO.out.alloc (.cells #[.int .i64 x, .int .i64 y, .string s] 65))
    have hgne : ¬ g = w1.heap.size := by omega
    have HSZ : Hid (w.heap.size + 2 ≤ w1.heap.size) := Lib.hid (by have := HB.out.size; simp at this; omega)
    have HLT : Hid (w1.heap.size < (w1.alloc (.cells #[.int .i64 x, .int .i64 y, .string s] 65)).heap.size) := Lib.hid (by simp)
    clear HO HB HALW1
    go_wp2_with fail
    clear p0 p1 p2 hgl
    generalize w1.alloc (.cells #[.int .i64 x, .int .i64 y, .string s] 65) = w2 at *
    generalize w1.heap.size = B7 at *
    go_loopw [5, 8] (fun ov kv wr => ∃ (k g cp : Nat), k ≤ 3 ∧ kv = .int .i64 (k : Int) ∧ ov = .slice (some ⟨g, 0, none⟩) (foldP A B (x, y, s) o k).length cp ∧ ¬ g = B7 ∧ Hid (wr.ownsRow (w.heap.size + 2) 65 3 (.slice (some ⟨g, 0, none⟩) (foldP A B (x, y, s) o k).length cp) (foldP A B (x, y, s) o k).length ((foldP A B (x, y, s) o k).map prC).flatten) ∧ Hid (wr.heap[B7]? = some (.cells #[.int .i64 x, .int .i64 y, .string s] 65)) ∧ Hid (Below (w.heap.size + 2) ((w.alloc (.cells #[.slice (some ⟨bA, fA, none⟩) A.1.length eac, .slice eb A.2.length ebc] 28)).alloc (.cells #[.slice (some ⟨bB, fB, none⟩) B.1.length ecc, .slice ed B.2.length edc] 28)) wr) ∧ Hid (B7 < wr.heap.size)) (fun _ kv _ => 3 - (intOf kv).toNat)
    case atStart => exact ⟨0, g, cp, by omega, rfl, rfl, hgne, HOK, HPC, HBK, HLT⟩
    case round =>
      clear HOK HPC HBK HLT hgne
      obtain ⟨w3, rfl⟩ : ∃ z : World, z = wr := ⟨_, rfl⟩
      obtain ⟨k, g3, cp3, hk, rfl, rfl, hg3, HO, HPC, HB, HLT⟩ := hrel
      by_cases hk3 : k < 3
      case neg =>
        obtain rfl : k = 3 := by omega
        have hfl := (HFI.out 3 (by omega)).len
        rw [← HNX.out] at HO
        have hN2 := HN2.out
        go_wp2_with fail
        go_roundw
        case rel => exact ⟨i + 1, g3, cp3, by omega, hN2, by go_num, by rw [HNX.out], HO, HB⟩
        case measure => (simp [intOf]; try omega)
      obtain ⟨ka, kc⟩ := HBX.out w3 HB.out
      have HBW := Lib.hid (box2_below HB.out)
      have ra := below_cellk HBW.out HCA.out hbA; have rc := below_cellk HBW.out HCB.out hbB
      have xa := below_cellk HBW.out (HEA.out k hk3) hb2A; have xc := below_cellk HBW.out (HEB.out k hk3) hb2B
      have q0 : w3.cell? ⟨B7, 0, none⟩ = some (.int .i64 x) := by simp [World.cell?, HPC.out]
      have q1 : w3.cell? ⟨B7, 1, none⟩ = some (.int .i64 y) := by simp [World.cell?, HPC.out]
      have q2 : w3.cell? ⟨B7, 2, none⟩ = some (.string s) := by simp [World.cell?, HPC.out]
      have e1 : IntKind.i64.wrap (97 + (k : Int)) = 97 + (k : Int) := IntWalk.i64_in _ (by omega)
      have e2 : IntKind.u8.wrap (97 + (k : Int)) = 97 + (k : Int) := IntWalk.u8_in _ (by omega)
      have hds := dig1_size (97 + (k : Int))
      have hcat : ¬ 9223372036854775807 < s.size + 1 := by omega
      have hcv1 : (convert 85 9 (.slice (some ⟨w3.heap.size, 0, none⟩) 1 1)).run Try.prog (w3.alloc (.cells #[.int .u8 (97 + (k : Int))] 5)).drew = .ok (.string (dig1 (97 + (k : Int)))) (w3.alloc (.cells #[.int .u8 (97 + (k : Int))] 5)).drew := conv_byte w3.drew _
      have hcv2 : (convert 85 9 (.slice (some ⟨w3.heap.size, 0, none⟩) 1 1)).run Try.prog ((w3.alloc (.cells #[.int .u8 (97 + (k : Int))] 5)).alloc (.cells #[.int .i64 0, .int .i64 0, .string { data := #[] }] 65)).drew = .ok (.string (dig1 (97 + (k : Int)))) ((w3.alloc (.cells #[.int .u8 (97 + (k : Int))] 5)).alloc (.cells #[.int .i64 0, .int .i64 0, .string { data := #[] }] 65)).drew := conv_at (by go_simp)
      have hcv3 : (convert 85 9 (.slice (some ⟨w3.heap.size + 1, 0, none⟩) 1 1)).run Try.prog ((w3.alloc (.cells #[.int .i64 0, .int .i64 0, .string { data := #[] }] 65)).alloc (.cells #[.int .u8 (97 + (k : Int))] 5)).drew = .ok (.string (dig1 (97 + (k : Int)))) ((w3.alloc (.cells #[.int .i64 0, .int .i64 0, .string { data := #[] }] 65)).alloc (.cells #[.int .u8 (97 + (k : Int))] 5)).drew := conv_at (by go_simp)
      go_upto_region 9 with fail
      go_cut [9] (fun s9 wx => ∃ B9 : Nat, s9 = .pointer (some ⟨B9, 0, none⟩) ∧ Hid (wx.cell? ⟨B9, 0, none⟩ = some (.int .i64 (goI A x k)) ∧ wx.cell? ⟨B9, 1, none⟩ = some (.int .i64 (goI B y k)) ∧ wx.cell? ⟨B9, 2, none⟩ = some (.string (s ++ dig1 (97 + (k : Int))))) ∧ Hid (Below w3.heap.size w3 wx))
      case first =>
        refine wp_region_G [28] (fun w' => w'.cell? ⟨w.heap.size, 0, none⟩ = some (.slice (some ⟨bA, fA, none⟩) A.1.length eac) ∧ w'.cell? ⟨w.heap.size + 1, 0, none⟩ = some (.slice (some ⟨bB, fB, none⟩) B.1.length ecc) ∧ w'.cell? ⟨bA, fA + x.toNat, none⟩ = some (.slice (some ⟨b2A, f2A, none⟩) 3 c2A) ∧ w'.cell? ⟨bB, fB + y.toNat, none⟩ = some (.slice (some ⟨b2B, f2B, none⟩) 3 c2B) ∧ w'.cell? ⟨b2A, f2A + k, none⟩ = some (.int .i64 (goI A x k)) ∧ w'.cell? ⟨b2B, f2B + k, none⟩ = some (.int .i64 (goI B y k)) ∧ w'.cell? ⟨B7, 0, none⟩ = some (.int .i64 x) ∧ w'.cell? ⟨B7, 1, none⟩ = some (.int .i64 y) ∧ w'.cell? ⟨B7, 2, none⟩ = some (.string s)) (by kernel_rfl) ?_ (fun hHeld => ?_)
        · exact ⟨ka, kc, ra, rc, xa, xc, q0, q1, q2⟩
        refine wpG_pure (i := 0) (oi := { dst := some 26, op := Go.Op.fieldAddr 28 (Go.Operand.tmp 2) 0, type := 0, pos := "l12_machine.go:175", after := #[], guard := none }) (v := ?vg1) rfl (by kernel_rfl) (fun _ _ _ h => h) (Or.inr hHeld) (Or.inl ⟨by rfl, ?yg1⟩) ?_
        case yg1 => (intro wS _; go_simp <;> with_reducible rfl)
        try simp only [Act.put, List.setIfInBounds_toArray, List.set_cons_zero, List.set_cons_succ]
        refine wpG_load (i := 1) (oi := { dst := some 27, op := Go.Op.load 22 (Go.Operand.tmp 26), type := 22, pos := "l12_machine.go:175", after := #[{ on := 0, ground := Go.Ground.data }], guard := none }) (v := ?vg2) [[28, 1]] rfl (by kernel_rfl) (fun _ _ _ h => h) hHeld (Or.inl ⟨by rfl, ?yg2⟩) ?_
        case yg2 => (intro wS hSw; (try dsimp only at hSw); go_simp <;> with_reducible rfl)
        try simp only [Act.put, List.setIfInBounds_toArray, List.set_cons_zero, List.set_cons_succ]
        refine wpG_pure (i := 2) (oi := { dst := some 28, op := Go.Op.fieldAddr 65 (Go.Operand.tmp 7) 0, type := 0, pos := "l12_machine.go:175", after := #[], guard := none }) (v := ?vg3) rfl (by kernel_rfl) (fun _ _ _ h => h) (Or.inr hHeld) (Or.inl ⟨by rfl, ?yg3⟩) ?_
        case yg3 => (intro wS _; go_simp <;> with_reducible rfl)
        try simp only [Act.put, List.setIfInBounds_toArray, List.set_cons_zero, List.set_cons_succ]
        refine wpG_load (i := 3) (oi := { dst := some 29, op := Go.Op.load 3 (Go.Operand.tmp 28), type := 3, pos := "l12_machine.go:175", after := #[{ on := 2, ground := Go.Ground.data }], guard := none }) (v := ?vg4) [[28, 3]] rfl (by kernel_rfl) (fun _ _ _ h => h) hHeld (Or.inl ⟨by rfl, ?yg4⟩) ?_
        case yg4 => (intro wS hSw; (try dsimp only at hSw); go_simp <;> with_reducible rfl)
        try simp only [Act.put, List.setIfInBounds_toArray, List.set_cons_zero, List.set_cons_succ]
        refine wpG_pure (i := 4) (oi := { dst := some 30, op := Go.Op.indexAddr 22 (Go.Operand.tmp 27) (Go.Operand.tmp 29), type := 0, pos := "l12_machine.go:175", after := #[{ on := 1, ground := Go.Ground.data }, { on := 3, ground := Go.Ground.data }], guard := none }) (v := ?vg5) rfl (by kernel_rfl) (fun _ _ _ h => h) (Or.inr hHeld) (Or.inl ⟨by rfl, ?yg5⟩) ?_
        case yg5 => (intro wS _; go_simp <;> with_reducible rfl)
        try simp only [Act.put, List.setIfInBounds_toArray, List.set_cons_zero, List.set_cons_succ]
        refine wpG_load (i := 5) (oi := { dst := some 31, op := Go.Op.load 42 (Go.Operand.tmp 30), type := 42, pos := "l12_machine.go:175", after := #[{ on := 4, ground := Go.Ground.data }], guard := none }) (v := ?vg6) [[28, 5]] rfl (by kernel_rfl) (fun _ _ _ h => h) hHeld (Or.inl ⟨by rfl, ?yg6⟩) ?_
        case yg6 => (intro wS hSw; (try dsimp only at hSw); go_simp <;> with_reducible rfl)
        try simp only [Act.put, List.setIfInBounds_toArray, List.set_cons_zero, List.set_cons_succ]
        refine wpG_pure (i := 6) (oi := { dst := some 32, op := Go.Op.move (Go.Operand.tmp 8), type := 3, pos := "l12_machine.go:175", after := #[], guard := none }) (v := ?vg7) rfl (by kernel_rfl) (fun _ _ _ h => h) (Or.inr hHeld) (Or.inl ⟨by rfl, ?yg7⟩) ?_
        case yg7 => (intro wS _; go_simp <;> with_reducible rfl)
        try simp only [Act.put, List.setIfInBounds_toArray, List.set_cons_zero, List.set_cons_succ]
        refine wpG_pure (i := 7) (oi := { dst := some 33, op := Go.Op.indexAddr 42 (Go.Operand.tmp 31) (Go.Operand.tmp 32), type := 0, pos := "l12_machine.go:175", after := #[{ on := 5, ground := Go.Ground.data }, { on := 6, ground := Go.Ground.data }], guard := none }) (v := ?vg8) rfl (by kernel_rfl) (fun _ _ _ h => h) (Or.inr hHeld) (Or.inl ⟨by rfl, ?yg8⟩) ?_
        case yg8 => (intro wS _; go_simp <;> with_reducible rfl)
        try simp only [Act.put, List.setIfInBounds_toArray, List.set_cons_zero, List.set_cons_succ]
        refine wpG_load (i := 8) (oi := { dst := some 34, op := Go.Op.load 3 (Go.Operand.tmp 33), type := 3, pos := "l12_machine.go:175", after := #[{ on := 7, ground := Go.Ground.data }], guard := none }) (v := ?vg9) [[28, 8]] rfl (by kernel_rfl) (fun _ _ _ h => h) hHeld (Or.inl ⟨by rfl, ?yg9⟩) ?_
        case yg9 => (intro wS hSw; (try dsimp only at hSw); go_simp <;> with_reducible rfl)
        try simp only [Act.put, List.setIfInBounds_toArray, List.set_cons_zero, List.set_cons_succ]
        refine wpG_pure (i := 9) (oi := { dst := some 35, op := Go.Op.fieldAddr 28 (Go.Operand.tmp 3) 0, type := 0, pos := "l12_machine.go:175", after := #[], guard := none }) (v := ?vg10) rfl (by kernel_rfl) (fun _ _ _ h => h) (Or.inr hHeld) (Or.inl ⟨by rfl, ?yg10⟩) ?_
        case yg10 => (intro wS _; go_simp <;> with_reducible rfl)
        try simp only [Act.put, List.setIfInBounds_toArray, List.set_cons_zero, List.set_cons_succ]
        refine wpG_load (i := 10) (oi := { dst := some 36, op := Go.Op.load 22 (Go.Operand.tmp 35), type := 22, pos := "l12_machine.go:175", after := #[{ on := 9, ground := Go.Ground.data }], guard := none }) (v := ?vg11) [[28, 10]] rfl (by kernel_rfl) (fun _ _ _ h => h) hHeld (Or.inl ⟨by rfl, ?yg11⟩) ?_
        case yg11 => (intro wS hSw; (try dsimp only at hSw); go_simp <;> with_reducible rfl)
        try simp only [Act.put, List.setIfInBounds_toArray, List.set_cons_zero, List.set_cons_succ]
        refine wpG_pure (i := 11) (oi := { dst := some 37, op := Go.Op.fieldAddr 65 (Go.Operand.tmp 7) 1, type := 0, pos := "l12_machine.go:175", after := #[], guard := none }) (v := ?vg12) rfl (by kernel_rfl) (fun _ _ _ h => h) (Or.inr hHeld) (Or.inl ⟨by rfl, ?yg12⟩) ?_
        case yg12 => (intro wS _; go_simp <;> with_reducible rfl)
        try simp only [Act.put, List.setIfInBounds_toArray, List.set_cons_zero, List.set_cons_succ]
        refine wpG_load (i := 12) (oi := { dst := some 38, op := Go.Op.load 3 (Go.Operand.tmp 37), type := 3, pos := "l12_machine.go:175", after := #[{ on := 11, ground := Go.Ground.data }], guard := none }) (v := ?vg13) [[28, 12]] rfl (by kernel_rfl) (fun _ _ _ h => h) hHeld (Or.inl ⟨by rfl, ?yg13⟩) ?_
        case yg13 => (intro wS hSw; (try dsimp only at hSw); go_simp <;> with_reducible rfl)
        try simp only [Act.put, List.setIfInBounds_toArray, List.set_cons_zero, List.set_cons_succ]
        refine wpG_pure (i := 13) (oi := { dst := some 39, op := Go.Op.indexAddr 22 (Go.Operand.tmp 36) (Go.Operand.tmp 38), type := 0, pos := "l12_machine.go:175", after := #[{ on := 10, ground := Go.Ground.data }, { on := 12, ground := Go.Ground.data }], guard := none }) (v := ?vg14) rfl (by kernel_rfl) (fun _ _ _ h => h) (Or.inr hHeld) (Or.inl ⟨by rfl, ?yg14⟩) ?_
        case yg14 => (intro wS _; go_simp <;> with_reducible rfl)
        try simp only [Act.put, List.setIfInBounds_toArray, List.set_cons_zero, List.set_cons_succ]
        refine wpG_load (i := 14) (oi := { dst := some 40, op := Go.Op.load 42 (Go.Operand.tmp 39), type := 42, pos := "l12_machine.go:175", after := #[{ on := 13, ground := Go.Ground.data }], guard := none }) (v := ?vg15) [[28, 14]] rfl (by kernel_rfl) (fun _ _ _ h => h) hHeld (Or.inl ⟨by rfl, ?yg15⟩) ?_
        case yg15 => (intro wS hSw; (try dsimp only at hSw); go_simp <;> with_reducible rfl)
        try simp only [Act.put, List.setIfInBounds_toArray, List.set_cons_zero, List.set_cons_succ]
        refine wpG_pure (i := 15) (oi := { dst := some 41, op := Go.Op.move (Go.Operand.tmp 8), type := 3, pos := "l12_machine.go:175", after := #[], guard := none }) (v := ?vg16) rfl (by kernel_rfl) (fun _ _ _ h => h) (Or.inr hHeld) (Or.inl ⟨by rfl, ?yg16⟩) ?_
        case yg16 => (intro wS _; go_simp <;> with_reducible rfl)
        try simp only [Act.put, List.setIfInBounds_toArray, List.set_cons_zero, List.set_cons_succ]
        refine wpG_pure (i := 16) (oi := { dst := some 42, op := Go.Op.indexAddr 42 (Go.Operand.tmp 40) (Go.Operand.tmp 41), type := 0, pos := "l12_machine.go:175", after := #[{ on := 14, ground := Go.Ground.data }, { on := 15, ground := Go.Ground.data }], guard := none }) (v := ?vg17) rfl (by kernel_rfl) (fun _ _ _ h => h) (Or.inr hHeld) (Or.inl ⟨by rfl, ?yg17⟩) ?_
        case yg17 => (intro wS _; go_simp <;> with_reducible rfl)
        try simp only [Act.put, List.setIfInBounds_toArray, List.set_cons_zero, List.set_cons_succ]
        refine wpG_load (i := 17) (oi := { dst := some 43, op := Go.Op.load 3 (Go.Operand.tmp 42), type := 3, pos := "l12_machine.go:175", after := #[{ on := 16, ground := Go.Ground.data }], guard := none }) (v := ?vg18) [[28, 17]] rfl (by kernel_rfl) (fun _ _ _ h => h) hHeld (Or.inl ⟨by rfl, ?yg18⟩) ?_
        case yg18 => (intro wS hSw; (try dsimp only at hSw); go_simp <;> with_reducible rfl)
        try simp only [Act.put, List.setIfInBounds_toArray, List.set_cons_zero, List.set_cons_succ]
        refine wpG_pure (i := 18) (oi := { dst := some 44, op := Go.Op.fieldAddr 65 (Go.Operand.tmp 7) 2, type := 0, pos := "l12_machine.go:175", after := #[], guard := none }) (v := ?vg19) rfl (by kernel_rfl) (fun _ _ _ h => h) (Or.inr hHeld) (Or.inl ⟨by rfl, ?yg19⟩) ?_
        case yg19 => (intro wS _; go_simp <;> with_reducible rfl)
        try simp only [Act.put, List.setIfInBounds_toArray, List.set_cons_zero, List.set_cons_succ]
        refine wpG_load (i := 19) (oi := { dst := some 45, op := Go.Op.load 9 (Go.Operand.tmp 44), type := 9, pos := "l12_machine.go:175", after := #[{ on := 18, ground := Go.Ground.data }], guard := none }) (v := ?vg20) [[28, 19]] rfl (by kernel_rfl) (fun _ _ _ h => h) hHeld (Or.inl ⟨by rfl, ?yg20⟩) ?_
        case yg20 => (intro wS hSw; (try dsimp only at hSw); go_simp <;> with_reducible rfl)
        try simp only [Act.put, List.setIfInBounds_toArray, List.set_cons_zero, List.set_cons_succ]
        refine wpG_pure (i := 20) (oi := { dst := some 46, op := Go.Op.move (Go.Operand.tmp 8), type := 3, pos := "l12_machine.go:175", after := #[], guard := none }) (v := ?vg21) rfl (by kernel_rfl) (fun _ _ _ h => h) (Or.inr hHeld) (Or.inl ⟨by rfl, ?yg21⟩) ?_
        case yg21 => (intro wS _; go_simp <;> with_reducible rfl)
        try simp only [Act.put, List.setIfInBounds_toArray, List.set_cons_zero, List.set_cons_succ]
        refine wpG_pure (i := 21) (oi := { dst := some 47, op := Go.Op.binOp Go.BinOp.add 3 (Go.Operand.const (Go.Value.int Go.IntKind.i64 97)) (Go.Operand.tmp 46) 3, type := 3, pos := "l12_machine.go:175", after := #[{ on := 20, ground := Go.Ground.data }], guard := none }) (v := ?vg22) rfl (by kernel_rfl) (fun _ _ _ h => h) (Or.inr hHeld) (Or.inl ⟨by rfl, ?yg22⟩) ?_
        case yg22 => (intro wS _; go_simp <;> with_reducible rfl)
        try simp only [Act.put, List.setIfInBounds_toArray, List.set_cons_zero, List.set_cons_succ]
        refine wpG_pure (i := 22) (oi := { dst := some 48, op := Go.Op.convert 3 5 (Go.Operand.tmp 47), type := 5, pos := "l12_machine.go:175", after := #[{ on := 21, ground := Go.Ground.data }], guard := none }) (v := ?vg23) rfl (by kernel_rfl) (fun _ _ _ h => h) (Or.inr hHeld) (Or.inl ⟨by rfl, ?yg23⟩) ?_
        case yg23 => (intro wS _; go_simp <;> with_reducible rfl)
        try simp only [Act.put, List.setIfInBounds_toArray, List.set_cons_zero, List.set_cons_succ]
        refine wpG_two (i := 23) (j := 27) (o := { dst := some 49, op := Go.Op.buildSlice 85 1 #[(0, Go.Operand.tmp 48)], type := 85, pos := "l12_machine.go:175", after := #[{ on := 22, ground := Go.Ground.data }], guard := none }) (o' := { dst := some 9, op := Go.Op.alloc 65, type := 0, pos := "l12_machine.go:175", after := #[], guard := none }) rfl rfl (by kernel_rfl) (fun K hK => ?_) (fun K hK => ?_)
        · skip
          go_simp
          refine hK.out _ _ (Or.inr ?khHeld24) (fun hHeld24S => ?_)
          case khHeld24 => first | exact ⟨cell_alloc _ ka, cell_alloc _ kc, cell_alloc _ ra, cell_alloc _ rc, cell_alloc _ xa, cell_alloc _ xc, cell_alloc _ q0, cell_alloc _ q1, cell_alloc _ q2⟩ | exact ⟨cell_alloc _ (cell_alloc _ ka), cell_alloc _ (cell_alloc _ kc), cell_alloc _ (cell_alloc _ ra), cell_alloc _ (cell_alloc _ rc), cell_alloc _ (cell_alloc _ xa), cell_alloc _ (cell_alloc _ xc), cell_alloc _ (cell_alloc _ q0), cell_alloc _ (cell_alloc _ q1), cell_alloc _ (cell_alloc _ q2)⟩
          have hHeld24 := hHeld24S.held (by kernel_rfl)
          clear hK K
          try simp only [Act.put, List.setIfInBounds_toArray, List.set_cons_zero, List.set_cons_succ]
          refine wpG_two (i := 24) (j := 27) (o := { dst := some 50, op := Go.Op.convert 85 9 (Go.Operand.tmp 49), type := 9, pos := "l12_machine.go:175", after := #[{ on := 23, ground := Go.Ground.data }], guard := none }) (o' := { dst := some 9, op := Go.Op.alloc 65, type := 0, pos := "l12_machine.go:175", after := #[], guard := none }) rfl rfl (by kernel_rfl) (fun K hK => ?_) (fun K hK => ?_)
          · skip
            go_simp
            refine hK.out _ _ (Or.inr ?khHeld25) (fun hHeld25S => ?_)
            case khHeld25 => first | exact ⟨cell_alloc _ ka, cell_alloc _ kc, cell_alloc _ ra, cell_alloc _ rc, cell_alloc _ xa, cell_alloc _ xc, cell_alloc _ q0, cell_alloc _ q1, cell_alloc _ q2⟩ | exact ⟨cell_alloc _ (cell_alloc _ ka), cell_alloc _ (cell_alloc _ kc), cell_alloc _ (cell_alloc _ ra), cell_alloc _ (cell_alloc _ rc), cell_alloc _ (cell_alloc _ xa), cell_alloc _ (cell_alloc _ xc), cell_alloc _ (cell_alloc _ q0), cell_alloc _ (cell_alloc _ q1), cell_alloc _ (cell_alloc _ q2)⟩
            have hHeld25 := hHeld25S.held (by kernel_rfl)
            clear hK K
            try simp only [Act.put, List.setIfInBounds_toArray, List.set_cons_zero, List.set_cons_succ]
            refine wpG_pure (i := 25) (oi := { dst := some 51, op := Go.Op.binOp Go.BinOp.add 9 (Go.Operand.tmp 45) (Go.Operand.tmp 50) 9, type := 9, pos := "l12_machine.go:175", after := #[{ on := 19, ground := Go.Ground.data }, { on := 24, ground := Go.Ground.data }], guard := none }) (v := ?vg26) rfl (by kernel_rfl) (fun _ _ _ h => h) (Or.inr hHeld25) (Or.inl ⟨by rfl, ?yg26⟩) ?_
            case yg26 => (intro wS _; go_simp <;> with_reducible rfl)
            try simp only [Act.put, List.setIfInBounds_toArray, List.set_cons_zero, List.set_cons_succ]
            refine wpG_pure (i := 26) (oi := { dst := some 52, op := Go.Op.build 65 #[(0, Go.Operand.tmp 34), (1, Go.Operand.tmp 43), (2, Go.Operand.tmp 51)], type := 65, pos := "l12_machine.go:175", after := #[{ on := 8, ground := Go.Ground.data }, { on := 17, ground := Go.Ground.data }, { on := 25, ground := Go.Ground.data }], guard := none }) (v := ?vg27) rfl (by kernel_rfl) (fun _ _ _ h => h) (Or.inr hHeld25) (Or.inl ⟨by rfl, ?yg27⟩) ?_
            case yg27 => (intro wS _; go_simp <;> with_reducible rfl)
            try simp only [Act.put, List.setIfInBounds_toArray, List.set_cons_zero, List.set_cons_succ]
            refine wpG_one (i := 27) (o := { dst := some 9, op := Go.Op.alloc 65, type := 0, pos := "l12_machine.go:175", after := #[], guard := none }) rfl (by kernel_rfl) (fun K hK => ?_)
            go_simp
            refine hK.out _ _ (Or.inr ?khHeld28) (fun hHeld28S => ?_)
            case khHeld28 => first | exact ⟨cell_alloc _ ka, cell_alloc _ kc, cell_alloc _ ra, cell_alloc _ rc, cell_alloc _ xa, cell_alloc _ xc, cell_alloc _ q0, cell_alloc _ q1, cell_alloc _ q2⟩ | exact ⟨cell_alloc _ (cell_alloc _ ka), cell_alloc _ (cell_alloc _ kc), cell_alloc _ (cell_alloc _ ra), cell_alloc _ (cell_alloc _ rc), cell_alloc _ (cell_alloc _ xa), cell_alloc _ (cell_alloc _ xc), cell_alloc _ (cell_alloc _ q0), cell_alloc _ (cell_alloc _ q1), cell_alloc _ (cell_alloc _ q2)⟩
            have hHeld28 := hHeld28S.held (by kernel_rfl)
            clear hK K
            try simp only [Act.put, List.setIfInBounds_toArray, List.set_cons_zero, List.set_cons_succ]
            refine wpG_one (i := 28) (o := { dst := none, op := Go.Op.store 65 (Go.Operand.tmp 9) (Go.Operand.tmp 52), type := 0, pos := "l12_machine.go:175", after := #[{ on := 27, ground := Go.Ground.data }, { on := 26, ground := Go.Ground.data }, { on := 0, ground := Go.Ground.phase }, { on := 1, ground := Go.Ground.phase }, { on := 2, ground := Go.Ground.phase }, { on := 3, ground := Go.Ground.phase }, { on := 4, ground := Go.Ground.phase }, { on := 5, ground := Go.Ground.phase }, { on := 6, ground := Go.Ground.phase }, { on := 7, ground := Go.Ground.phase }, { on := 8, ground := Go.Ground.phase }, { on := 9, ground := Go.Ground.phase }, { on := 10, ground := Go.Ground.phase }, { on := 11, ground := Go.Ground.phase }, { on := 12, ground := Go.Ground.phase }, { on := 13, ground := Go.Ground.phase }, { on := 14, ground := Go.Ground.phase }, { on := 15, ground := Go.Ground.phase }, { on := 16, ground := Go.Ground.phase }, { on := 17, ground := Go.Ground.phase }, { on := 18, ground := Go.Ground.phase }, { on := 19, ground := Go.Ground.phase }, { on := 20, ground := Go.Ground.phase }, { on := 21, ground := Go.Ground.phase }, { on := 22, ground := Go.Ground.phase }, { on := 23, ground := Go.Ground.phase }, { on := 24, ground := Go.Ground.phase }, { on := 25, ground := Go.Ground.phase }, { on := 26, ground := Go.Ground.phase }, { on := 27, ground := Go.Ground.phase }], guard := none }) rfl (by kernel_rfl) (fun K hK => ?_)
            go_simp
            refine hK.out _ _ (Or.inl (by kernel_rfl)) (fun _ => ?_)
            clear hK K
            try simp only [Act.put, List.setIfInBounds_toArray, List.set_cons_zero, List.set_cons_succ]
            refine wpG_done (by kernel_rfl) ?_
            go_wp2_with fail
            go_meet
            exact ⟨_, rfl, Lib.hid ⟨by go_simp, by go_simp, by go_simp⟩, Lib.hid (rdrew (((Below.refl _ _).alloc (Nat.le_refl _) _).alloc (by simp) _) 1)⟩
          · skip
            go_simp
            refine hK.out _ _ (Or.inr ?khHeld30) (fun hHeld30S => ?_)
            case khHeld30 => first | exact ⟨cell_alloc _ ka, cell_alloc _ kc, cell_alloc _ ra, cell_alloc _ rc, cell_alloc _ xa, cell_alloc _ xc, cell_alloc _ q0, cell_alloc _ q1, cell_alloc _ q2⟩ | exact ⟨cell_alloc _ (cell_alloc _ ka), cell_alloc _ (cell_alloc _ kc), cell_alloc _ (cell_alloc _ ra), cell_alloc _ (cell_alloc _ rc), cell_alloc _ (cell_alloc _ xa), cell_alloc _ (cell_alloc _ xc), cell_alloc _ (cell_alloc _ q0), cell_alloc _ (cell_alloc _ q1), cell_alloc _ (cell_alloc _ q2)⟩
            have hHeld30 := hHeld30S.held (by kernel_rfl)
            clear hK K
            try simp only [Act.put, List.setIfInBounds_toArray, List.set_cons_zero, List.set_cons_succ]
            refine wpG_one (i := 24) (o := { dst := some 50, op := Go.Op.convert 85 9 (Go.Operand.tmp 49), type := 9, pos := "l12_machine.go:175", after := #[{ on := 23, ground := Go.Ground.data }], guard := none }) rfl (by kernel_rfl) (fun K hK => ?_)
            go_simp
            refine hK.out _ _ (Or.inr ?khHeld31) (fun hHeld31S => ?_)
            case khHeld31 => first | exact ⟨cell_alloc _ ka, cell_alloc _ kc, cell_alloc _ ra, cell_alloc _ rc, cell_alloc _ xa, cell_alloc _ xc, cell_alloc _ q0, cell_alloc _ q1, cell_alloc _ q2⟩ | exact ⟨cell_alloc _ (cell_alloc _ ka), cell_alloc _ (cell_alloc _ kc), cell_alloc _ (cell_alloc _ ra), cell_alloc _ (cell_alloc _ rc), cell_alloc _ (cell_alloc _ xa), cell_alloc _ (cell_alloc _ xc), cell_alloc _ (cell_alloc _ q0), cell_alloc _ (cell_alloc _ q1), cell_alloc _ (cell_alloc _ q2)⟩
            have hHeld31 := hHeld31S.held (by kernel_rfl)
            clear hK K
            try simp only [Act.put, List.setIfInBounds_toArray, List.set_cons_zero, List.set_cons_succ]
            refine wpG_pure (i := 25) (oi := { dst := some 51, op := Go.Op.binOp Go.BinOp.add 9 (Go.Operand.tmp 45) (Go.Operand.tmp 50) 9, type := 9, pos := "l12_machine.go:175", after := #[{ on := 19, ground := Go.Ground.data }, { on := 24, ground := Go.Ground.data }], guard := none }) (v := ?vg32) rfl (by kernel_rfl) (fun _ _ _ h => h) (Or.inr hHeld31) (Or.inl ⟨by rfl, ?yg32⟩) ?_
            case yg32 => (intro wS _; go_simp <;> with_reducible rfl)
            try simp only [Act.put, List.setIfInBounds_toArray, List.set_cons_zero, List.set_cons_succ]
            refine wpG_pure (i := 26) (oi := { dst := some 52, op := Go.Op.build 65 #[(0, Go.Operand.tmp 34), (1, Go.Operand.tmp 43), (2, Go.Operand.tmp 51)], type := 65, pos := "l12_machine.go:175", after := #[{ on := 8, ground := Go.Ground.data }, { on := 17, ground := Go.Ground.data }, { on := 25, ground := Go.Ground.data }], guard := none }) (v := ?vg33) rfl (by kernel_rfl) (fun _ _ _ h => h) (Or.inr hHeld31) (Or.inl ⟨by rfl, ?yg33⟩) ?_
            case yg33 => (intro wS _; go_simp <;> with_reducible rfl)
            try simp only [Act.put, List.setIfInBounds_toArray, List.set_cons_zero, List.set_cons_succ]
            refine wpG_one (i := 28) (o := { dst := none, op := Go.Op.store 65 (Go.Operand.tmp 9) (Go.Operand.tmp 52), type := 0, pos := "l12_machine.go:175", after := #[{ on := 27, ground := Go.Ground.data }, { on := 26, ground := Go.Ground.data }, { on := 0, ground := Go.Ground.phase }, { on := 1, ground := Go.Ground.phase }, { on := 2, ground := Go.Ground.phase }, { on := 3, ground := Go.Ground.phase }, { on := 4, ground := Go.Ground.phase }, { on := 5, ground := Go.Ground.phase }, { on := 6, ground := Go.Ground.phase }, { on := 7, ground := Go.Ground.phase }, { on := 8, ground := Go.Ground.phase }, { on := 9, ground := Go.Ground.phase }, { on := 10, ground := Go.Ground.phase }, { on := 11, ground := Go.Ground.phase }, { on := 12, ground := Go.Ground.phase }, { on := 13, ground := Go.Ground.phase }, { on := 14, ground := Go.Ground.phase }, { on := 15, ground := Go.Ground.phase }, { on := 16, ground := Go.Ground.phase }, { on := 17, ground := Go.Ground.phase }, { on := 18, ground := Go.Ground.phase }, { on := 19, ground := Go.Ground.phase }, { on := 20, ground := Go.Ground.phase }, { on := 21, ground := Go.Ground.phase }, { on := 22, ground := Go.Ground.phase }, { on := 23, ground := Go.Ground.phase }, { on := 24, ground := Go.Ground.phase }, { on := 25, ground := Go.Ground.phase }, { on := 26, ground := Go.Ground.phase }, { on := 27, ground := Go.Ground.phase }], guard := none }) rfl (by kernel_rfl) (fun K hK => ?_)
            go_simp
            refine hK.out _ _ (Or.inl (by kernel_rfl)) (fun _ => ?_)
            clear hK K
            try simp only [Act.put, List.setIfInBounds_toArray, List.set_cons_zero, List.set_cons_succ]
            refine wpG_done (by kernel_rfl) ?_
            go_wp2_with fail
            go_meet
            exact ⟨_, rfl, Lib.hid ⟨by go_simp, by go_simp, by go_simp⟩, Lib.hid (rdrew (((Below.refl _ _).alloc (Nat.le_refl _) _).alloc (by simp) _) 1)⟩
        · skip
          go_simp
          refine hK.out _ _ (Or.inr ?khHeld35) (fun hHeld35S => ?_)
          case khHeld35 => first | exact ⟨cell_alloc _ ka, cell_alloc _ kc, cell_alloc _ ra, cell_alloc _ rc, cell_alloc _ xa, cell_alloc _ xc, cell_alloc _ q0, cell_alloc _ q1, cell_alloc _ q2⟩ | exact ⟨cell_alloc _ (cell_alloc _ ka), cell_alloc _ (cell_alloc _ kc), cell_alloc _ (cell_alloc _ ra), cell_alloc _ (cell_alloc _ rc), cell_alloc _ (cell_alloc _ xa), cell_alloc _ (cell_alloc _ xc), cell_alloc _ (cell_alloc _ q0), cell_alloc _ (cell_alloc _ q1), cell_alloc _ (cell_alloc _ q2)⟩
          have hHeld35 := hHeld35S.held (by kernel_rfl)
          clear hK K
          try simp only [Act.put, List.setIfInBounds_toArray, List.set_cons_zero, List.set_cons_succ]
          refine wpG_one (i := 23) (o := { dst := some 49, op := Go.Op.buildSlice 85 1 #[(0, Go.Operand.tmp 48)], type := 85, pos := "l12_machine.go:175", after := #[{ on := 22, ground := Go.Ground.data }], guard := none }) rfl (by kernel_rfl) (fun K hK => ?_)
          go_simp
          refine hK.out _ _ (Or.inr ?khHeld36) (fun hHeld36S => ?_)
          case khHeld36 => first | exact ⟨cell_alloc _ ka, cell_alloc _ kc, cell_alloc _ ra, cell_alloc _ rc, cell_alloc _ xa, cell_alloc _ xc, cell_alloc _ q0, cell_alloc _ q1, cell_alloc _ q2⟩ | exact ⟨cell_alloc _ (cell_alloc _ ka), cell_alloc _ (cell_alloc _ kc), cell_alloc _ (cell_alloc _ ra), cell_alloc _ (cell_alloc _ rc), cell_alloc _ (cell_alloc _ xa), cell_alloc _ (cell_alloc _ xc), cell_alloc _ (cell_alloc _ q0), cell_alloc _ (cell_alloc _ q1), cell_alloc _ (cell_alloc _ q2)⟩
          have hHeld36 := hHeld36S.held (by kernel_rfl)
          clear hK K
          try simp only [Act.put, List.setIfInBounds_toArray, List.set_cons_zero, List.set_cons_succ]
          refine wpG_one (i := 24) (o := { dst := some 50, op := Go.Op.convert 85 9 (Go.Operand.tmp 49), type := 9, pos := "l12_machine.go:175", after := #[{ on := 23, ground := Go.Ground.data }], guard := none }) rfl (by kernel_rfl) (fun K hK => ?_)
          go_simp
          refine hK.out _ _ (Or.inr ?khHeld37) (fun hHeld37S => ?_)
          case khHeld37 => first | exact ⟨cell_alloc _ ka, cell_alloc _ kc, cell_alloc _ ra, cell_alloc _ rc, cell_alloc _ xa, cell_alloc _ xc, cell_alloc _ q0, cell_alloc _ q1, cell_alloc _ q2⟩ | exact ⟨cell_alloc _ (cell_alloc _ ka), cell_alloc _ (cell_alloc _ kc), cell_alloc _ (cell_alloc _ ra), cell_alloc _ (cell_alloc _ rc), cell_alloc _ (cell_alloc _ xa), cell_alloc _ (cell_alloc _ xc), cell_alloc _ (cell_alloc _ q0), cell_alloc _ (cell_alloc _ q1), cell_alloc _ (cell_alloc _ q2)⟩
          have hHeld37 := hHeld37S.held (by kernel_rfl)
          clear hK K
          try simp only [Act.put, List.setIfInBounds_toArray, List.set_cons_zero, List.set_cons_succ]
          refine wpG_pure (i := 25) (oi := { dst := some 51, op := Go.Op.binOp Go.BinOp.add 9 (Go.Operand.tmp 45) (Go.Operand.tmp 50) 9, type := 9, pos := "l12_machine.go:175", after := #[{ on := 19, ground := Go.Ground.data }, { on := 24, ground := Go.Ground.data }], guard := none }) (v := ?vg38) rfl (by kernel_rfl) (fun _ _ _ h => h) (Or.inr hHeld37) (Or.inl ⟨by rfl, ?yg38⟩) ?_
          case yg38 => (intro wS _; go_simp <;> with_reducible rfl)
          try simp only [Act.put, List.setIfInBounds_toArray, List.set_cons_zero, List.set_cons_succ]
          refine wpG_pure (i := 26) (oi := { dst := some 52, op := Go.Op.build 65 #[(0, Go.Operand.tmp 34), (1, Go.Operand.tmp 43), (2, Go.Operand.tmp 51)], type := 65, pos := "l12_machine.go:175", after := #[{ on := 8, ground := Go.Ground.data }, { on := 17, ground := Go.Ground.data }, { on := 25, ground := Go.Ground.data }], guard := none }) (v := ?vg39) rfl (by kernel_rfl) (fun _ _ _ h => h) (Or.inr hHeld37) (Or.inl ⟨by rfl, ?yg39⟩) ?_
          case yg39 => (intro wS _; go_simp <;> with_reducible rfl)
          try simp only [Act.put, List.setIfInBounds_toArray, List.set_cons_zero, List.set_cons_succ]
          refine wpG_one (i := 28) (o := { dst := none, op := Go.Op.store 65 (Go.Operand.tmp 9) (Go.Operand.tmp 52), type := 0, pos := "l12_machine.go:175", after := #[{ on := 27, ground := Go.Ground.data }, { on := 26, ground := Go.Ground.data }, { on := 0, ground := Go.Ground.phase }, { on := 1, ground := Go.Ground.phase }, { on := 2, ground := Go.Ground.phase }, { on := 3, ground := Go.Ground.phase }, { on := 4, ground := Go.Ground.phase }, { on := 5, ground := Go.Ground.phase }, { on := 6, ground := Go.Ground.phase }, { on := 7, ground := Go.Ground.phase }, { on := 8, ground := Go.Ground.phase }, { on := 9, ground := Go.Ground.phase }, { on := 10, ground := Go.Ground.phase }, { on := 11, ground := Go.Ground.phase }, { on := 12, ground := Go.Ground.phase }, { on := 13, ground := Go.Ground.phase }, { on := 14, ground := Go.Ground.phase }, { on := 15, ground := Go.Ground.phase }, { on := 16, ground := Go.Ground.phase }, { on := 17, ground := Go.Ground.phase }, { on := 18, ground := Go.Ground.phase }, { on := 19, ground := Go.Ground.phase }, { on := 20, ground := Go.Ground.phase }, { on := 21, ground := Go.Ground.phase }, { on := 22, ground := Go.Ground.phase }, { on := 23, ground := Go.Ground.phase }, { on := 24, ground := Go.Ground.phase }, { on := 25, ground := Go.Ground.phase }, { on := 26, ground := Go.Ground.phase }, { on := 27, ground := Go.Ground.phase }], guard := none }) rfl (by kernel_rfl) (fun K hK => ?_)
          go_simp
          refine hK.out _ _ (Or.inl (by kernel_rfl)) (fun _ => ?_)
          clear hK K
          try simp only [Act.put, List.setIfInBounds_toArray, List.set_cons_zero, List.set_cons_succ]
          refine wpG_done (by kernel_rfl) ?_
          go_wp2_with fail
          go_meet
          exact ⟨_, rfl, Lib.hid ⟨by go_simp, by go_simp, by go_simp⟩, Lib.hid (rdrew (((Below.refl _ _).alloc (Nat.le_refl _) _).alloc (by simp) _) 1)⟩
      case rest =>
        obtain ⟨B9, rfl, HQC, HBC⟩ := hcut
        obtain ⟨w4, rfl⟩ : ∃ z : World, z = wc := ⟨_, rfl⟩
        clear hcv1 hcv2 hcv3 q0 q1 q2 ka kc ra rc xa xc e1 e2 hcat
        obtain ⟨c0, c1, c2⟩ := HQC.out
        have HO4 := Lib.hid (own_later HO.out HBC.out)
        have HB4 := Lib.hid (box2_step HB.out HBC.out)
        have HPC4 : Hid (w4.heap[B7]? = some (.cells #[.int .i64 x, .int .i64 y, .string s] 65)) := Lib.hid ((HBC.out.block B7 HLT.out).trans HPC.out)
        have HLT4 : Hid (B7 < w4.heap.size) := Lib.hid (Nat.lt_of_lt_of_le HLT.out HBC.out.size)
        have hfl := (HFI.out k hk).len
        have hprod : A.1.length * B.1.length ≤ 144 := by have := Nat.mul_le_mul HGA.out.n12 HGB.out.n12; omega
        have HVY : Hid (hasP (foldP A B (x, y, s) o k) (goI A x k, goI B y k, s ++ dig1 (97 + (k : Int))) = true → foldP A B (x, y, s) o (k + 1) = foldP A B (x, y, s) o k) := Lib.hid (fun h => visit_yes h)
        have HVN : Hid (hasP (foldP A B (x, y, s) o k) (goI A x k, goI B y k, s ++ dig1 (97 + (k : Int))) = false → foldP A B (x, y, s) o (k + 1) = foldP A B (x, y, s) o k ++ [(goI A x k, goI B y k, s ++ dig1 (97 + (k : Int)))]) := Lib.hid (fun h => visit_no h)
        have HNDF := Lib.hid (HFI.out k hk).nd
        have HAT := Lib.hid (spec_at (some ⟨g3, 0, none⟩) cp3 (foldP A B (x, y, s) o k) (goI A x k) (goI B y k) w4 (own_prow HO4.out) (by omega))
        clear HO HB HPC HLT HQC HBC
        generalize goI A x k = qx at *
        generalize goI B y k = qy at *
        generalize s ++ dig1 (97 + (k : Int)) = qs at *
        generalize hF2 : foldP A B (x, y, s) o (k + 1) = L2 at *
        have HF2 := Lib.hid hF2
        generalize foldP A B (x, y, s) o k = L at *
        clear hF2
        cases hh : hasP L (qx, qy, qs) with
        | true =>
          obtain ⟨j, hj, hjx⟩ := idxP_some HNDF.out hh
          simp only at hjx
          rw [hjx] at HAT
          obtain rfl := (HVY.out hh).symm
          clear hh hjx HVN HVY
          go_wp2_with fail
          refine HAT.out.mono ?_
          rintro e w5 ⟨rfl, hb⟩
          have hjn : ¬ (j : Int) < 0 := by omega
          have HO5 := Lib.hid (own_later HO4.out hb); have HB5 := Lib.hid (box2_step HB4.out hb)
          have HPC5 : Hid (w5.heap[B7]? = some (.cells #[.int .i64 x, .int .i64 y, .string s] 65)) := Lib.hid ((hb.block B7 HLT4.out).trans HPC4.out)
          have HLT5 : Hid (B7 < w5.heap.size) := Lib.hid (Nat.lt_of_lt_of_le HLT4.out hb.size)
          clear hb HO4 HB4 HPC4 HLT4 HAT
          go_wp2_with fail
          go_roundw
          case rel => exact ⟨k + 1, g3, cp3, by omega, by go_num, by rw [HF2.out], hg3, by rw [HF2.out]; exact HO5, HPC5, HB5, HLT5⟩
          case measure => (simp [intOf]; try omega)
        | false =>
          have hjx := idxP_none hh
          simp only at hjx
          rw [hjx] at HAT
          have HL2 := Lib.hid (HVN.out hh)
          clear hh hjx HVN HVY
          go_wp2_with fail
          refine HAT.out.mono ?_
          rintro e w5 ⟨rfl, hb⟩
          have HO5 := Lib.hid (own_later HO4.out hb); have HB5 := Lib.hid (box2_step HB4.out hb)
          have HPC5 : Hid (w5.heap[B7]? = some (.cells #[.int .i64 x, .int .i64 y, .string s] 65)) := Lib.hid ((hb.block B7 HLT4.out).trans HPC4.out)
          have HLT5 : Hid (B7 < w5.heap.size) := Lib.hid (Nat.lt_of_lt_of_le HLT4.out hb.size)
          replace c0 := below_later hb c0; replace c1 := below_later hb c1; replace c2 := below_later hb c2
          have HS5 : Hid (w.heap.size + 2 ≤ w5.heap.size) := Lib.hid (by have := HLT5.out; have := HSZ.out; omega)
          clear hb HO4 HB4 HPC4 HLT4 HAT
          have HNW : Hid (∀ j u, (prC (qx, qy, qs))[j]? = some u → (w5.alloc (.cells #[.int .i64 qx, .int .i64 qy, .string qs] 65)).cell? ((⟨w5.heap.size, 0, none⟩ : Addr).add j) = some u) := Lib.hid (World.news_of_block (cs := #[.int .i64 qx, .int .i64 qy, .string qs]) (heap_alloc_new w5 _))
          go_wp2_with (at_builtin; (refine wpList_append_lies _ rfl _ _ 62 rfl (w.heap.size + 2) 65 i0 (.agg #[.int .i64 0, .int .i64 0, .string ByteArray.empty]) 3 32 Try.underlying62 hi hz0 hz1 hz2 rfl (by decide) _ L.length _ rfl (HO5.out.alloc _) _ 1 1 (prC (qx, qy, qs)) rfl (by simp [prC]) HNW.out (by simp [prC, Value.oneCell']) (by decide) (by unfold maxLen; omega) (by omega) (Nat.le_trans HS5.out (by simp)) _ rfl ?_))
          intro g9 cp9 w9 hown hgrow hat hlt9
          have HB9 := Lib.hid (Below.grown (HB5.out.alloc HS5.out (.cells #[.int .i64 qx, .int .i64 qy, .string qs] 65)) hgrow (Nat.le_trans HS5.out (by simp)) (fun j hj => (HO5.out.lt j hj).1))
          have HPC9 : Hid (w9.heap[B7]? = some (.cells #[.int .i64 x, .int .i64 y, .string s] 65)) := Lib.hid ((hgrow.block B7 (by have := HLT5.out; simp; omega) (by simp [Value.ownBlock]; omega)).trans (heap_alloc_old HPC5.out _))
          have HLT9 : Hid (B7 < w9.heap.size) := Lib.hid (by have := HLT5.out; have := hgrow.size; simp at this; omega)
          have hg9 : ¬ g9 = B7 := by
            have := HLT5.out
            rcases hat with h | h
            · simp [Value.ownBlock] at h; omega
            · first | omega | (simp at h; omega)
          have HOW : Hid (w9.ownsRow (w.heap.size + 2) 65 3 (.slice (some ⟨g9, 0, none⟩) L2.length cp9) L2.length (L2.map prC).flatten) := Lib.hid (by
            rw [HL2.out, List.length_append, List.map_append, List.flatten_append]
            simpa using hown)
          have hl2 : L.length + 1 = L2.length := by rw [HL2.out]; simp
          clear hown hgrow hat hlt9
          go_wp2_with fail
          go_roundw
          case rel => exact ⟨k + 1, g9, cp9, by omega, by go_num, by rw [HF2.out, ← hl2], hg9, by rw [HF2.out]; exact HOW, HPC9, HB9, HLT9⟩
          case measure => (simp [intOf]; try omega)
end Go.Proofs.Ytedjahinlpehgaa
