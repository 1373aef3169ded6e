/- Fields put in order: the program's contract. -/
import Derived.Test.YtlmgckijbamgpaaSrt7
import Derived.Test.YtlmgckijbamgpaaFs1
import Derived.Test.YtlmgckijbamgpaaFld6
namespace Go.Proofs.Ytlmgckijbamgpaa
set_option linter.unusedVariables false
set_option linter.unusedSimpArgs false
open Go.ChangeShapes Go.WideShapes Go.ChangeAt Go.RowKit
set_option maxRecDepth 100000

def SrtO (R : List Fld × Bool) (w : World) (e : Ending) (w' : World) : Prop :=
  ∃ v, e = .returned (.tuple #[v, .bool R.2]) ∧ w'.ownsRow w.heap.size 57 4 v R.1.length (fdsV R.1) ∧ Below w.heap.size w w'
def R_Sort (l : List Fld) : List Fld × Bool := if goodFs l = true then (srtF l, true) else ([], false)
theorem fdsV_oc (l : List Fld) : ∀ u ∈ fdsV l, u.oneCell' = true := by
  intro u hu
  unfold fdsV fv at hu
  rw [List.mem_flatten] at hu
  obtain ⟨x, hx, hu⟩ := hu
  obtain ⟨f, _, rfl⟩ := List.mem_map.1 hx
  simp only [List.mem_cons, List.not_mem_nil, or_false] at hu
  rcases hu with rfl | rfl | rfl | rfl <;> rfl
set_option maxHeartbeats 1000000 in
theorem sort_nil (w : World) : Calls Try.prog 85 #[.slice none 0 0, .func (.func 86) #[] #[]] w fun e w' => e = .returned (.tuple #[]) ∧ w = w' := by
  have HI : Hid (Calls Try.prog 141 #[.slice none 0 0, .int .i64 0, .int .i64 0, .func (.func 86) #[] #[]] w fun e w' => e = .returned (.tuple #[]) ∧ w = w') := Lib.hid (by
    go_enter Try.func141, Try.ntmps141
    go_wp2_with fail
    go_loopw [8] (fun iv wr => iv = .int .i64 1 ∧ w = wr) (fun _ _ => 0)
    case atStart => exact ⟨rfl, rfl⟩
    case round =>
      obtain ⟨rfl, rfl⟩ := hrel
      go_wp2_with fail
      first | (refine bodyPost_ret (results_none rfl _ _ _) rfl ?_) | (refine bodyPost_end (results_none rfl _ _ _) rfl ?_)
      exact ⟨rfl, rfl⟩)
  have HS : Hid (Calls Try.prog 127 #[.slice none 0 0, .int .i64 0, .func (.func 86) #[] #[]] w fun e w' => e = .returned (.tuple #[]) ∧ w = w') := Lib.hid (by
    go_enter Try.func127, Try.ntmps127
    go_wp2_with fail
    go_loopw [7, 8] (fun av bv wr => av = .int .i64 0 ∧ bv = .int .i64 20 ∧ w = wr) (fun _ _ _ => 0)
    case atStart => exact ⟨rfl, rfl, rfl⟩
    case round =>
      obtain ⟨rfl, rfl, rfl⟩ := hrel
      go_wp2_with fail
      refine HI.out.mono ?_
      rintro e w2 ⟨rfl, rfl⟩
      go_wp2_with fail
      go_loopw [6] (fun sv wr => sv = .int .i64 20 ∧ w = wr) (fun _ _ => 0)
      case atStart => exact ⟨rfl, rfl⟩
      case round =>
        obtain ⟨rfl, rfl⟩ := hrel
        go_wp2_with fail
        first | (refine bodyPost_ret (results_none rfl _ _ _) rfl ?_) | (refine bodyPost_end (results_none rfl _ _ _) rfl ?_)
        exact ⟨rfl, rfl⟩)
  go_enter Try.func85, Try.ntmps85
  go_wp2_with fail
  refine HS.out.mono ?_
  rintro e w5 ⟨rfl, rfl⟩
  go_wp2_with fail
  first | (refine bodyPost_ret (results_none rfl _ _ _) rfl ?_) | (refine bodyPost_end (results_none rfl _ _ _) rfl ?_)
  exact ⟨rfl, rfl⟩
set_option maxHeartbeats 1000000 in
theorem clone_nil (w : World) : Calls Try.prog 84 #[.slice none 0 0] w fun e w' => e = .returned (.slice none 0 0) ∧ w = w' := by
  have qT : ∀ (w : World) (a : Option Addr) (n c n' c' : Nat), (binOp .eql 49 (.slice a n c) (.slice none n' c')).run Try.prog w = .ok (.bool a.isNone) w := fun w a n c n' c' => Lib.run_eql_slice_nil w _ _ a n c n' c' Try.underlying49
  go_enter Try.func84, Try.ntmps84
  go_wp2_with fail
  go_ret
  exact ⟨rfl, rfl⟩
set_option maxHeartbeats 1000000 in
theorem clone_flds (b off cap : Nat) (l : List Fld) (w : World) (hrow : Rw w (some ⟨b, off, none⟩) (fdsV l)) (hb : b < w.heap.size) (hl : l.length ≤ 1000000) :
    Calls Try.prog 84 #[.slice (some ⟨b, off, none⟩) l.length cap] w fun e w' => ∃ g cp, e = .returned (.slice (some ⟨g, 0, none⟩) l.length cp) ∧ l.length ≤ cp ∧ cp ≤ 9223372036854775807 ∧ RowS w g l.length cp l w' := by
  obtain ⟨i0, hi, hz0, hz1, hz2⟩ := info_parts Try.infoFld
  have HNEWS : Hid (∀ (j : Nat) (u : Value), (fdsV l)[j]? = some u → (w.alloc (.cells #[] 57)).cell? ((⟨b, off, none⟩ : Addr).add j) = some u) := Lib.hid fun j u hj => by
    obtain ⟨b2, o2, h1, h2, h3⟩ := hrow.at (fun e => by rw [e] at hj; simp at hj)
    cases h1
    have := cell_alloc (.cells #[] 57) (h3 j u hj)
    cases j with
    | zero => simpa [Addr.add] using this
    | succ j => simpa [Addr.add] using this
  have HO : Hid ((w.alloc (.cells #[] 57)).ownsRow w.heap.size 57 4 (.slice (some ⟨w.heap.size, 0, none⟩) 0 0) 0 []) := Lib.hid (World.ownsRow_lit w #[] 0 (Nat.le_refl _) (by decide) rfl)
  have HLN := Lib.hid (fdsV_len l)
  have HOC := Lib.hid (fdsV_oc l)
  obtain ⟨n, hn⟩ : ∃ n, l.length = n := ⟨_, rfl⟩
  rw [hn] at HLN hl ⊢
  clear hrow hn
  have qT : ∀ (w : World) (a : Option Addr) (n c n' c' : Nat), (binOp .eql 49 (.slice a n c) (.slice none n' c')).run Try.prog w = .ok (.bool a.isNone) w := fun w a n c n' c' => Lib.run_eql_slice_nil w _ _ a n c n' c' Try.underlying49
  go_enter Try.func84, Try.ntmps84
  go_wp2_with (at_builtin; refine wpList_append_own _ rfl _ _ 49 rfl w.heap.size 57 i0 (.agg #[.int .i64 0, .int .i64 0, .int .i64 0, .string ByteArray.empty]) 4 40 Try.underlying49 hi hz0 hz1 hz2 rfl (by decide) _ 0 [] rfl HO.out ⟨b, off, none⟩ n cap (fdsV l) rfl HLN.out HNEWS.out HOC.out (by unfold maxLen; omega) (by omega) (by simp) ?_)
  intro v9 w9 hown hgrow hnil
  have HB9 := Lib.hid (Below.grown ((Below.refl w.heap.size w).alloc (Nat.le_refl _) (.cells #[] 57)) hgrow (by simp) (fun j hj => (HO.out.lt j hj).1))
  have HOW := Lib.hid hown
  obtain ⟨g, cp, rfl, hnc, hcm⟩ : ∃ g cp, v9 = .slice (some ⟨g, 0, none⟩) n cp ∧ n ≤ cp ∧ cp ≤ 9223372036854775807 := by
    have h2 := hown.2
    rcases h2 with ⟨hv, h0⟩ | ⟨g, cap, cur, hv, hg, hgb, hlc, hcm, _⟩
    · exact absurd hv hnil
    · refine ⟨g, cap, hv, ?_, by unfold maxLen at hcm; omega⟩
      omega
  clear hown hgrow hnil
  go_wp2_with fail
  go_ret
  exact ⟨g, cp, rfl, hnc, hcm, HOW.out, HB9.out⟩
set_option maxHeartbeats 2000000 in
theorem impl_SortFields (a : Option Addr) (cap : Nat) (l : List Fld) (w : World) (hown : ∃ B, w.ownsRow B 57 4 (.slice a l.length cap) l.length (fdsV l)) (hl : l.length ≤ 1048576) :
    Calls Try.prog 32 #[.slice a l.length cap] w (SrtO (R_Sort l) w) := by
  obtain ⟨B, ho⟩ := hown
  have HG := Lib.hid (impl_fieldsOK a cap l (own_rw ho) hl)
  have HO := Lib.hid ho
  unfold SrtO
  cases hg : goodFs l with
  | false =>
    rw [hg] at HG
    have HR : R_Sort l = ([], false) := by unfold R_Sort; rw [hg]; rfl
    rw [HR]
    clear ho hg HR
    go_enter Try.func32, Try.ntmps32
    go_wp2_with fail
    refine HG.out.mono ?_
    rintro e w1 ⟨rfl, hb⟩
    have HB := Lib.hid hb; clear hb
    go_wp2_with fail
    go_ret2
    exact ⟨_, rfl, World.ownsRow_nil _ _ _ _, HB.out⟩
  | true =>
    rw [hg] at HG
    have HR : R_Sort l = (srtF l, true) := by unfold R_Sort; rw [hg]; rfl
    rw [HR]
    have hl40 : l.length ≤ 40 := by unfold goodFs at hg; simp at hg; exact hg.1
    have ho2 := ho.2
    rcases ho2 with ⟨hv, h0⟩ | ⟨g0, cap0, cur, hv, hg0, hgb, hlc, hcm, _⟩
    · simp only [Value.slice.injEq] at hv
      obtain ⟨rfl, _, rfl⟩ := hv
      obtain rfl : l = [] := List.length_eq_zero_iff.1 h0
      have HC := Lib.hid (fun wx => clone_nil wx)
      have HS := Lib.hid (fun wx => sort_nil wx)
      clear ho hg HR HO h0
      go_enter Try.func32, Try.ntmps32
      go_wp2_with fail
      refine HG.out.mono ?_
      rintro e w1 ⟨rfl, hb⟩
      have HB := Lib.hid hb; clear hb
      go_wp2_with fail
      refine (HC.out _).mono ?_
      rintro e w2 ⟨rfl, rfl⟩
      go_wp2_with fail
      refine (HS.out _).mono ?_
      rintro e w2 ⟨rfl, rfl⟩
      go_wp2_with fail
      go_ret2
      exact ⟨_, rfl, World.ownsRow_nil _ _ _ _, HB.out⟩
    · cases hv
      have hgl := (Array.getElem?_eq_some_iff.1 hgb).1
      have HC := Lib.hid (fun wx (hb : Below w.heap.size w wx) => clone_flds g0 0 cap l wx ((own_rw ho).below hb) (by have := hb.size; omega) (by omega))
      obtain ⟨n, hn⟩ : ∃ n, l.length = n := ⟨_, rfl⟩
      have HLN := Lib.hid hn
      rw [hn] at HC HG HO hl40 ⊢
      clear ho hg HR hgb hcm hlc hn hl
      go_enter Try.func32, Try.ntmps32
      go_wp2_with fail
      refine HG.out.mono ?_
      rintro e w1 ⟨rfl, hb⟩
      have HB := Lib.hid hb; clear hb
      go_wp2_with fail
      refine (HC.out _ HB.out).mono ?_
      rintro e w2 ⟨g, cp, rfl, hnc, hcm, hrow⟩
      have HF := Lib.hid (sort_func w1 g n cp l w2 hnc hcm hl40 hrow)
      unfold SortP at HF
      clear hrow
      go_wp2_with fail
      refine HF.out.mono ?_
      rintro e w3 ⟨rfl, L, hr, hst, hso⟩
      have HR := Lib.hid hr; have HT := Lib.hid hst; have HS := Lib.hid hso
      clear hr hst hso
      go_wp2_with fail
      go_ret2
      have hlen := HR.out.len
      have e := srt_is (so_srt (by rw [hlen]; exact HS.out)) HT.out.2.2.2
      have hz := HB.out.size
      refine ⟨_, rfl, ?_, HB.out.trans (HR.out.bel.mono hz)⟩
      have h := own_mono HR.out.own hz
      rw [e] at h
      have e2 : (srtF l).length = n := by rw [srtF_len, HLN.out]
      show World.ownsRow _ _ _ _ _ (srtF l).length (fdsV (srtF l))
      rw [e2]; exact h
end Go.Proofs.Ytlmgckijbamgpaa
