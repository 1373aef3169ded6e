/- What a want tells of a field: both walks of it. -/
import Derived.Test.YtlmgckijbamgpaaFltR
import Derived.Test.YtlmgckijbamgpaaWn4
namespace Go.Proofs.Ytlmgckijbamgpaa
set_option linter.unusedVariables false
set_option linter.unusedSimpArgs false
open Go.ChangeShapes Go.WideShapes Go.ChangeAt Go.RowKit
set_option maxRecDepth 100000

set_option maxHeartbeats 1000000 in
theorem lite_HasPrefix (s t : ByteArray) (w : World) : Calls Try.prog 144 #[.string s, .string t] w fun e w' => e = .returned (.bool (preB s t)) ∧ w = w' := by
  by_cases h : t.size ≤ s.size
  · have hp : preB s t = ((s.extract 0 t.size).toList == t.toList) := by unfold preB; rw [decide_eq_true h, Bool.true_and]
    rw [hp]
    cases hb : ((s.extract 0 t.size).toList == t.toList) with
    | false =>
      clear hp
      go_enter Try.func144, Try.ntmps144
      go_wp2_with fail
      go_ret
      exact ⟨rfl, rfl⟩
    | true =>
      clear hp
      go_enter Try.func144, Try.ntmps144
      go_wp2_with fail
      go_ret
      exact ⟨rfl, rfl⟩
  · have hp : preB s t = false := by unfold preB; rw [decide_eq_false h, Bool.false_and]
    rw [hp]
    clear hp
    go_enter Try.func144, Try.ntmps144
    go_wp2_with fail
    go_ret
    exact ⟨rfl, rfl⟩
theorem str_HasPrefix (s t : ByteArray) (w : World) : Calls Try.prog 133 #[.string s, .string t] w fun e w' => e = .returned (.bool (preB s t)) ∧ w = w' := by
  have H := Lib.hid (fun wx => lite_HasPrefix s t wx)
  generalize preB s t = r at *
  go_enter Try.func133, Try.ntmps133
  go_wp2_with (refine (H.out _).mono ?_; rintro e w' ⟨rfl, rfl⟩)
  go_ret
  exact ⟨rfl, rfl⟩
set_option maxHeartbeats 4000000 in
theorem impl_fieldIs (no fk fn : Int) (fd : ByteArray) (kd nm : Int) (tx : ByteArray) (w : World) : Calls Try.prog 100 #[.agg #[.int .i64 no, .int .i64 fk, .int .i64 fn, .string fd], .int .i64 kd, .int .i64 nm, .string tx] w fun e w' => e = .returned (.bool (fldA fk fn fd kd nm tx)) ∧ Below w.heap.size w w' := by
  have HP := Lib.hid (fun wx => str_HasPrefix fd tx wx)
  unfold fldA
  generalize preB fd tx = pb at *
  by_cases h0 : fk = 0
  · subst h0
    have HB := Lib.hid ((Below.refl w.heap.size w).alloc (Nat.le_refl _) (.cells #[.int .i64 no, .int .i64 0, .int .i64 fn, .string fd] 57))
    by_cases h1 : kd = 1
    · subst h1
      rw [if_pos rfl]
      go_enter Try.func100, Try.ntmps100
      go_wp2_with ((with_reducible refine (HP.out _).mono ?_); rintro e w' ⟨rfl, rfl⟩)
      go_ret
      first | exact ⟨rfl, HB.out⟩ | exact ⟨ret_bool (by simp), HB.out⟩
    rw [if_neg h1]
    by_cases h2 : kd = 2
    · subst h2
      rw [if_pos rfl]
      go_enter Try.func100, Try.ntmps100
      go_wp2_with ((with_reducible refine (HP.out _).mono ?_); rintro e w' ⟨rfl, rfl⟩)
      go_ret
      first | exact ⟨rfl, HB.out⟩ | exact ⟨ret_bool (by simp), HB.out⟩
    rw [if_neg h2]
    by_cases h3 : kd = 3
    · subst h3
      rw [if_pos rfl]
      go_enter Try.func100, Try.ntmps100
      go_wp2_with ((with_reducible refine (HP.out _).mono ?_); rintro e w' ⟨rfl, rfl⟩)
      go_ret
      first | exact ⟨rfl, HB.out⟩ | exact ⟨ret_bool (by simp), HB.out⟩
    rw [if_neg h3]
    by_cases h5 : kd = 5
    · subst h5
      rw [if_pos rfl]
      go_enter Try.func100, Try.ntmps100
      go_wp2_with ((with_reducible refine (HP.out _).mono ?_); rintro e w' ⟨rfl, rfl⟩)
      go_ret
      first | exact ⟨rfl, HB.out⟩ | exact ⟨ret_bool (by simp), HB.out⟩
    rw [if_neg h5]
    have k1 := kind_eq h1
    have k2 := kind_eq h2
    have k3 := kind_eq h3
    have k5 := kind_eq h5
    clear h1 h2 h3 h5
    go_enter Try.func100, Try.ntmps100
    go_wp2_with ((with_reducible refine (HP.out _).mono ?_); rintro e w' ⟨rfl, rfl⟩)
    go_ret
    first | exact ⟨rfl, HB.out⟩ | exact ⟨ret_bool (by simp), HB.out⟩
  · have k0 := kind_eq h0
    rw [k0]
    have HB := Lib.hid ((Below.refl w.heap.size w).alloc (Nat.le_refl _) (.cells #[.int .i64 no, .int .i64 fk, .int .i64 fn, .string fd] 57))
    clear h0
    by_cases h1 : kd = 1
    · subst h1
      rw [if_pos rfl]
      go_enter Try.func100, Try.ntmps100
      go_wp2_with ((with_reducible refine (HP.out _).mono ?_); rintro e w' ⟨rfl, rfl⟩)
      go_ret
      first | exact ⟨rfl, HB.out⟩ | exact ⟨ret_bool (by simp), HB.out⟩
    rw [if_neg h1]
    by_cases h2 : kd = 2
    · subst h2
      rw [if_pos rfl]
      go_enter Try.func100, Try.ntmps100
      go_wp2_with ((with_reducible refine (HP.out _).mono ?_); rintro e w' ⟨rfl, rfl⟩)
      go_ret
      first | exact ⟨rfl, HB.out⟩ | exact ⟨ret_bool (by simp), HB.out⟩
    rw [if_neg h2]
    by_cases h3 : kd = 3
    · subst h3
      rw [if_pos rfl]
      go_enter Try.func100, Try.ntmps100
      go_wp2_with ((with_reducible refine (HP.out _).mono ?_); rintro e w' ⟨rfl, rfl⟩)
      go_ret
      first | exact ⟨rfl, HB.out⟩ | exact ⟨ret_bool (by simp), HB.out⟩
    rw [if_neg h3]
    by_cases h5 : kd = 5
    · subst h5
      rw [if_pos rfl]
      go_enter Try.func100, Try.ntmps100
      go_wp2_with ((with_reducible refine (HP.out _).mono ?_); rintro e w' ⟨rfl, rfl⟩)
      go_ret
      first | exact ⟨rfl, HB.out⟩ | exact ⟨ret_bool (by simp), HB.out⟩
    rw [if_neg h5]
    have k1 := kind_eq h1
    have k2 := kind_eq h2
    have k3 := kind_eq h3
    have k5 := kind_eq h5
    clear h1 h2 h3 h5
    go_enter Try.func100, Try.ntmps100
    go_wp2_with ((with_reducible refine (HP.out _).mono ?_); rintro e w' ⟨rfl, rfl⟩)
    go_ret
    first | exact ⟨rfl, HB.out⟩ | exact ⟨ret_bool (by simp), HB.out⟩
/-- the program's closure of a want -/
def wtest (kd no nm : Int) (tx : ByteArray) (p : Fld × Int) : Bool := p.1.no == no && fldA p.1.kind p.1.num p.1.data kd nm tx
set_option maxHeartbeats 2000000 in
theorem clo_so (c : Nat) (kd no nm : Int) (tx : ByteArray) (p : Fld × Int) (w : World) (c0 : w.cell? ⟨c, 0, none⟩ = some (.int .i64 kd)) (c1 : w.cell? ⟨c, 1, none⟩ = some (.int .i64 no)) (c2 : w.cell? ⟨c, 2, none⟩ = some (.int .i64 nm)) (c3 : w.cell? ⟨c, 3, none⟩ = some (.string tx)) :
    Calls Try.prog 132 #[.agg #[.int .i64 p.1.no, .int .i64 p.1.kind, .int .i64 p.1.num, .string p.1.data, .int .i64 p.2], .pointer (some ⟨c, 0, none⟩)] w fun e w' => e = .returned (.bool (wtest kd no nm tx p)) ∧ Below w.heap.size w w' := by
  obtain ⟨⟨xn, xk, xm, xd⟩, xa⟩ := p
  unfold wtest
  simp only
  have H := Lib.hid (fun wx => impl_fieldIs xn xk xm xd kd nm tx wx)
  generalize fldA xk xm xd kd nm tx = r at *
  have hc := World.block_lt_of_cell? w _ c0
  have HB := Lib.hid (box_start w (.cells #[.int .i64 xn, .int .i64 xk, .int .i64 xm, .string xd, .int .i64 xa] 119))
  by_cases hn : xn = no
  · subst hn
    rw [beq_self_eq_true, Bool.true_and]
    go_enter Try.func132, Try.ntmps132
    go_wp2_with fail
    refine (H.out _).mono ?_
    rintro e w' ⟨rfl, hb⟩
    have HB2 := Lib.hid (box_step HB.out hb); clear hb
    go_wp2_with fail
    go_ret
    exact ⟨rfl, box_below HB2.out⟩
  · have kn := kind_eq hn
    rw [kn, Bool.false_and]
    go_enter Try.func132, Try.ntmps132
    go_wp2_with fail
    go_ret
    exact ⟨rfl, box_below HB.out⟩
set_option maxHeartbeats 2000000 in
theorem idx_so {w : World} (c : Nat) (kd no nm : Int) (tx : ByteArray) (hc : c < w.heap.size) (c0 : w.cell? ⟨c, 0, none⟩ = some (.int .i64 kd)) (c1 : w.cell? ⟨c, 1, none⟩ = some (.int .i64 no)) (c2 : w.cell? ⟨c, 2, none⟩ = some (.int .i64 nm)) (c3 : w.cell? ⟨c, 3, none⟩ = some (.string tx)) (a : Option Addr) (cap : Nat) (l : List (Fld × Int)) (hrow : Rw w a (pvs l)) (hn : l.length ≤ 1048576) :
    Calls Try.prog 98 #[.slice a l.length cap, .func (.func 132) #[] #[.pointer (some ⟨c, 0, none⟩)]] w fun e w' => e = .returned (.int .i64 (fidx (wtest kd no nm tx) l)) ∧ Below w.heap.size w w' := by
  have HROW := Lib.hid hrow
  clear hrow
  have HCLO : Hid (∀ (p : Fld × Int) (wx : World), Below w.heap.size w wx → Calls Try.prog 132 #[.agg #[.int .i64 p.1.no, .int .i64 p.1.kind, .int .i64 p.1.num, .string p.1.data, .int .i64 p.2], .pointer (some ⟨c, 0, none⟩)] wx fun e w' => e = .returned (.bool (wtest kd no nm tx p)) ∧ Below wx.heap.size wx w') :=
    Lib.hid (fun p wx hb => clo_so c kd no nm tx p wx (below_later hb c0) (below_later hb c1) (below_later hb c2) (below_later hb c3))
  generalize wtest kd no nm tx = p at *
  clear c0 c1 c2 c3
  go_enter Try.func98, Try.ntmps98
  go_wp2_with fail
  go_loopw [8] (fun i wr => ∃ k : Nat, k ≤ l.length ∧ i = .int .i64 k ∧ Hid ((l.take k).any p = false) ∧ Hid (Below w.heap.size w wr)) (fun i _ => l.length - (intOf i).toNat)
  case atStart => exact ⟨0, Nat.zero_le _, rfl, rfl, Below.refl _ _⟩
  case round =>
    obtain ⟨k, hk, rfl, HA, HB⟩ := hrel
    by_cases hlk : k < l.length
    case neg =>
      go_wp2_with fail
      go_ret
      obtain rfl : k = l.length := by omega
      have h1 := HA.out
      rw [List.take_length] at h1
      exact ⟨ret_int (fidx_none p l h1).symm, HB.out⟩
    obtain ⟨x, hx⟩ : ∃ x, l[k]? = some x := ⟨l[k], List.getElem?_eq_getElem hlk⟩
    have hgd : l.getD k x = x := by simp [List.getD, hx]
    have hyes : p x = true → fidx p l = k := fun h => fidx_here p l x k hlk HA.out (by rw [hgd]; exact h)
    have hno : p x = false → (l.take (k + 1)).any p = false := fun h => fidx_next p l x k hlk HA.out (by rw [hgd]; exact h)
    obtain ⟨q0, q1, q2, q3, q4⟩ := pvs_at l k x hx
    obtain ⟨b, off, rfl, hbl, hcc⟩ := HROW.out.at (fun e => by have := congrArg List.length e; rw [pvs_len] at this; simp at this; omega)
    have HC := Lib.hid (HCLO.out x wr HB.out)
    have HY := Lib.hid hyes; have HN := Lib.hid hno
    have hbr : b < wr.heap.size := Nat.lt_of_lt_of_le hbl HB.out.size
    have d0 := (HB.out.cell (p := ⟨b, off + k * 5, none⟩) hbl).trans (hcc _ _ q0)
    have d1 : wr.cell? ⟨b, off + k * 5 + 1, none⟩ = _ := (HB.out.cell (p := ⟨b, off + (k * 5 + 1), none⟩) hbl).trans (hcc _ _ q1)
    have d2 : wr.cell? ⟨b, off + k * 5 + 2, none⟩ = _ := (HB.out.cell (p := ⟨b, off + (k * 5 + 2), none⟩) hbl).trans (hcc _ _ q2)
    have d3 : wr.cell? ⟨b, off + k * 5 + 3, none⟩ = _ := (HB.out.cell (p := ⟨b, off + (k * 5 + 3), none⟩) hbl).trans (hcc _ _ q3)
    have d4 : wr.cell? ⟨b, off + k * 5 + 4, none⟩ = _ := (HB.out.cell (p := ⟨b, off + (k * 5 + 4), none⟩) hbl).trans (hcc _ _ q4)
    clear hx hgd hyes hno q0 q1 q2 q3 q4 hcc
    obtain ⟨⟨xn, xk, xm, xd⟩, xa⟩ := x
    simp only at d0 d1 d2 d3 d4 HC
    cases hp : p (⟨xn, xk, xm, xd⟩, xa) with
    | true =>
      rw [hp] at HC
      have HP := Lib.hid hp; clear hp
      go_wp2_with (go_at_call 132; refine HC.out.mono ?_; rintro e w2 ⟨rfl, hb2⟩; have HB2 := Lib.hid hb2; clear hb2)
      go_ret
      exact ⟨ret_int (HY.out HP.out).symm, HB.out.trans (HB2.out.mono HB.out.size)⟩
    | false =>
      rw [hp] at HC
      have HP := Lib.hid hp; clear hp
      go_wp2_with (go_at_call 132; refine HC.out.mono ?_; rintro e w2 ⟨rfl, hb2⟩; have HB2 := Lib.hid hb2; clear hb2)
      go_roundw
      case rel => exact ⟨k + 1, by omega, by go_num, HN.out HP.out, HB.out.trans (HB2.out.mono HB.out.size)⟩
      case measure => simp [intOf]; omega
set_option maxHeartbeats 1000000 in
theorem has_so {w : World} (c : Nat) (kd no nm : Int) (tx : ByteArray) (hc : c < w.heap.size) (c0 : w.cell? ⟨c, 0, none⟩ = some (.int .i64 kd)) (c1 : w.cell? ⟨c, 1, none⟩ = some (.int .i64 no)) (c2 : w.cell? ⟨c, 2, none⟩ = some (.int .i64 nm)) (c3 : w.cell? ⟨c, 3, none⟩ = some (.string tx)) (a : Option Addr) (cap : Nat) (l : List (Fld × Int)) (hrow : Rw w a (pvs l)) (hn : l.length ≤ 1048576) :
    Calls Try.prog 131 #[.slice a l.length cap, .func (.func 132) #[] #[.pointer (some ⟨c, 0, none⟩)]] w fun e w' => e = .returned (.bool (l.any (wtest kd no nm tx))) ∧ Below w.heap.size w w' := by
  have HI := Lib.hid (idx_so c kd no nm tx hc c0 c1 c2 c3 a cap l hrow hn)
  clear hrow c0 c1 c2 c3
  by_cases h : 0 ≤ fidx (wtest kd no nm tx) l
  · have H := Lib.hid ((fidx_any (wtest kd no nm tx) l).1 h)
    generalize fidx (wtest kd no nm tx) l = r at *
    go_enter Try.func131, Try.ntmps131
    go_wp2_with (go_at_call 98; refine HI.out.mono ?_; rintro e w' ⟨rfl, hb2⟩; have HB2 := Lib.hid hb2; clear hb2)
    go_ret
    exact ⟨ret_bool (by rw [H.out]; try (simp; try omega)), HB2.out⟩
  · have H := Lib.hid (Bool.eq_false_iff.2 fun hc => h ((fidx_any (wtest kd no nm tx) l).2 hc))
    generalize fidx (wtest kd no nm tx) l = r at *
    go_enter Try.func131, Try.ntmps131
    go_wp2_with (go_at_call 98; refine HI.out.mono ?_; rintro e w' ⟨rfl, hb2⟩; have HB2 := Lib.hid hb2; clear hb2)
    go_ret
    exact ⟨ret_bool (by rw [H.out]; try (simp; try omega)), HB2.out⟩
end Go.Proofs.Ytlmgckijbamgpaa
