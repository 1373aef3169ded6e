/- What both of two types tell: the reference's walk, whole. -/
import Derived.Test.YtmlnecopbncdbaaMtV
namespace Go.Proofs.Ytmlnecopbncdbaa
set_option linter.unusedVariables false
set_option linter.unusedSimpArgs false
open Go.ChangeShapes Go.WideShapes Go.ChangeAt Go.RowKit
set_option maxRecDepth 100000

theorem spec_l2Meet : ∀ (f : Nat) (S : Nat → Prop) (w : World) (a b : Tr) (pa pb : List Value), countT a ≤ f → KS S w a pa → KS S w b pb → RightT a → RightT b → countT a ≤ 1000 → countT b ≤ 1000 → Calls Try.prog 34 #[.agg pa.toArray, .agg pb.toArray] w (MeetV S a b w)
  | 0, S, w, a, b, pa, pb, hf, _, _, _, _, _, _ => by have := countT_pos a; omega
  | f + 1, S, w, a, b, pa, pb, hf, ha, hb, hra, hrb, hla, hlb => by
    have IH : ∀ (S' : Nat → Prop) (wx : World) (x y : Tr) (px py : List Value), x ∈ a.kids → y ∈ b.kids → KS S' wx x px → KS S' wx y py → Calls Try.prog 34 #[.agg px.toArray, .agg py.toArray] wx (MeetV S' x y wx) := fun S' wx x y px py hx hy hkx hky =>
      spec_l2Meet f S' wx x y px py (by have := size_lt hx; omega) hkx hky (right_kids hra x hx).2 (right_kids hrb y hy).2 (by have := size_lt hx; omega) (by have := size_lt hy; omega)
    have hna := count_kids a
    have hnb := count_kids b
    have hma := count_len a.kids
    have hmb := count_len b.kids
    cases a with
    | node k nm no m mo ks =>
      cases b with
      | node k' nm' no' m' mo' us =>
        obtain ⟨va, ca, vsa, rfl, hnm, hca, hcam, hrowa, hksa⟩ : ∃ a c vss, pa = [.int .i64 k, .string nm, .int .i64 no, .bool m, .int .i64 mo, .slice a ks.length c] ∧ nm.size ≤ maxLen ∧ ks.length ≤ c ∧ c ≤ 9223372036854775807 ∧ RS S w a (List.flatten vss) ∧ KSs S w ks vss := by rw [KS] at ha; exact ha
        obtain ⟨vb, cb, vsb, rfl, hnm', hcb, hcbm, hrowb, hksb⟩ : ∃ a c vss, pb = [.int .i64 k', .string nm', .int .i64 no', .bool m', .int .i64 mo', .slice a us.length c] ∧ nm'.size ≤ maxLen ∧ us.length ≤ c ∧ c ≤ 9223372036854775807 ∧ RS S w a (List.flatten vss) ∧ KSs S w us vss := by rw [KS] at hb; exact hb
        change ks.length ≤ countL ks at hma
        change us.length ≤ countL us at hmb
        rw [countT] at hla hlb
        by_cases hk : k = k'
        case neg =>
          refine (meet_ne (w := w) k k' nm nm' no no' m m' mo mo' ks us va vb ca cb hk).mono ?_
          rintro e w' ⟨rfl, hbw⟩
          exact meetv_no (meetT_ne hk) hbw
        by_cases h4 : k = 4
        · obtain ⟨x, hx⟩ := right_list hra h4
          obtain ⟨y, hy⟩ := right_list hrb (hk.symm.trans h4)
          have e1 := right_most hra (show ¬ k = 3 by omega)
          have e2 := right_most hrb (show ¬ k' = 3 by omega)
          change mo = 0 at e1
          change mo' = 0 at e2
          change ks = [x] at hx
          change us = [y] at hy
          have IH1 : ∀ (S' : Nat → Prop) (wx : World) (px py : List Value), KS S' wx x px → KS S' wx y py → Calls Try.prog 34 #[.agg px.toArray, .agg py.toArray] wx (MeetV S' x y wx) := fun S' wx px py => IH S' wx x y px py (show x ∈ ks by rw [hx]; simp) (show y ∈ us by rw [hy]; simp)
          cases m with
          | true => exact meet_lst_t nm nm' no no' m' mo mo' x y k k' h4 (hk.symm.trans h4) ks us hx hy hnm hca hcam hcb hcbm hrowa hksa hrowb hksb (by omega) IH1
          | false => exact meet_lst_f nm nm' no no' m' mo mo' x y k k' h4 (hk.symm.trans h4) ks us hx hy hnm hca hcam hcb hcbm hrowa hksa hrowb hksb (by omega) IH1
        · by_cases hm : mo' < mo
          · cases m with
            | true => exact meet_msg_tl nm nm' no no' m' mo mo' k k' hk h4 ks us hnm hnm' hca hcam hcb hcbm hrowa hksa hrowb hksb (by omega) hm IH
            | false => exact meet_msg_fl nm nm' no no' m' mo mo' k k' hk h4 ks us hnm hnm' hca hcam hcb hcbm hrowa hksa hrowb hksb (by omega) hm IH
          · cases m with
            | true => exact meet_msg_tg nm nm' no no' m' mo mo' k k' hk h4 ks us hnm hnm' hca hcam hcb hcbm hrowa hksa hrowb hksb (by omega) hm IH
            | false => exact meet_msg_fg nm nm' no no' m' mo mo' k k' hk h4 ks us hnm hnm' hca hcam hcb hcbm hrowa hksa hrowb hksb (by omega) hm IH
end Go.Proofs.Ytmlnecopbncdbaa
