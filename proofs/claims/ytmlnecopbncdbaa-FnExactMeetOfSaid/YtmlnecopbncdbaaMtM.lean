/- What both of two types tell: the program's walk, whole. -/
import Derived.Test.YtmlnecopbncdbaaMtJ
namespace Go.Proofs.Ytmlnecopbncdbaa
set_option linter.unusedVariables false
set_option linter.unusedSimpArgs false
open Go.ChangeShapes Go.WideShapes Go.ChangeAt Go.RowKit
set_option maxRecDepth 100000

theorem right_parts {t : Tr} (h : RightT t) (h4 : ¬ t.kind = 4) : t.kids.Pairwise (fun a b => ¬ a.no = b.no) := by
  by_cases h5 : t.kind = 5
  · exact right_nos h h5
  · rw [right_leaf h (by omega)]; exact List.Pairwise.nil
theorem impl_meet : ∀ (f : Nat) (S : Nat → Prop) (w : World) (a b : Tr) (pa pb : Value), countT a ≤ f → KP S w a pa → KP S w b pb → RightT a → RightT b → countT a ≤ 1000 → countT b ≤ 1000 → Calls Try.prog 39 #[pa, pb] w (MeetP S a b w)
  | 0, S, w, a, b, pa, pb, hf, _, _, _, _, _, _ => by have := countT_pos a; omega
  | f + 1, S, w, a, b, pa, pb, hf, ha, hb, hra, hrb, hla, hlb => by
    have IH : ∀ (S' : Nat → Prop) (wx : World) (x y : Tr) (px py : Value), x ∈ a.kids → y ∈ b.kids → KP S' wx x px → KP S' wx y py → Calls Try.prog 39 #[px, py] wx (MeetP S' x y wx) := fun S' wx x y px py hx hy hkx hky =>
      impl_meet f S' wx x y px py (by have := size_lt hx; omega) hkx hky (right_kids hra x hx).2 (right_kids hrb y hy).2 (by have := size_lt hx; omega) (by have := size_lt hy; omega)
    have hna := count_kids a
    have hnb := count_kids b
    have hma := count_len a.kids
    have hmb := count_len b.kids
    by_cases hk : a.kind = b.kind
    case neg =>
      refine (imeet_ne ha hb hk).mono ?_
      rintro e w' ⟨rfl, hbw⟩
      exact meetp_no (meetT_ne hk) hbw
    cases a with
    | node k nm no m mo ks =>
      cases b with
      | node k' nm' no' m' mo' us =>
        obtain ⟨bx, va, ca, vsa, rfl, hSa, hX, hnm, hca, hcam, hrowa, hksa⟩ : ∃ b a c vs, pa = .pointer (some ⟨b, 0, none⟩) ∧ S b ∧ w.heap[b]? = some (.cells #[.int .i64 k, .string nm, .int .i64 no, .bool m, .int .i64 mo, .slice a ks.length c] 103) ∧ nm.size ≤ maxLen ∧ ks.length ≤ c ∧ c ≤ 9223372036854775807 ∧ RS S w a vs ∧ KPs S w ks vs := by rw [KP] at ha; exact ha
        obtain ⟨bY, vb, cb, vsb, rfl, hSb, hY, hnm', hcb, hcbm, hrowb, hksb⟩ : ∃ b a c vs, pb = .pointer (some ⟨b, 0, none⟩) ∧ S b ∧ w.heap[b]? = some (.cells #[.int .i64 k', .string nm', .int .i64 no', .bool m', .int .i64 mo', .slice a us.length c] 103) ∧ nm'.size ≤ maxLen ∧ us.length ≤ c ∧ c ≤ 9223372036854775807 ∧ RS S w a vs ∧ KPs S w us vs := by rw [KP] at hb; exact hb
        change ks.length ≤ countL ks at hma
        change us.length ≤ countL us at hmb
        change k = k' at hk
        rw [countT] at hla hlb
        by_cases h4 : k = 4
        · obtain ⟨x, hx⟩ := right_list hra h4
          obtain ⟨y, hy⟩ := right_list hrb (hk.symm.trans h4)
          change ks = [x] at hx
          change us = [y] at hy
          have IH1 : ∀ (S' : Nat → Prop) (wx : World) (px py : Value), KP S' wx x px → KP S' wx y py → Calls Try.prog 39 #[px, py] wx (MeetP S' x y wx) := fun S' wx px py => IH S' wx x y px py (show x ∈ ks by rw [hx]; simp) (show y ∈ us by rw [hy]; simp)
          cases m with
          | true => exact imeet_lst_t nm nm' no no' m' mo mo' x y k k' h4 (hk.symm.trans h4) ks us hx hy hX hY hnm hca hcam hcb hcbm hrowa hksa hrowb hksb IH1
          | false => exact imeet_lst_f nm nm' no no' m' mo mo' x y k k' h4 (hk.symm.trans h4) ks us hx hy hX hY hnm hca hcam hcb hcbm hrowa hksa hrowb hksb IH1
        · have hda : ks.Pairwise (fun a b => ¬ a.no = b.no) := right_parts hra h4
          have hdb : us.Pairwise (fun a b => ¬ a.no = b.no) := right_parts hrb (show ¬ k' = 4 by omega)
          cases m with
          | true => exact imeet_msg_t nm nm' no no' m' mo mo' k k' hk h4 ks us hSa hSb hX hY hnm hnm' hca hcam hcb hcbm hrowa hksa hrowb hksb (by omega) hda hdb IH
          | false => exact imeet_msg_f nm nm' no no' m' mo mo' k k' hk h4 ks us hSa hSb hX hY hnm hnm' hca hcam hcb hcbm hrowa hksa hrowb hksb (by omega) hda hdb IH
end Go.Proofs.Ytmlnecopbncdbaa
