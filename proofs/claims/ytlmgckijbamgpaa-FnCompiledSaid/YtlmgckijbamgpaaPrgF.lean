/- A program run: the program's contract. -/
import Derived.Test.YtlmgckijbamgpaaPrgA
import Derived.Test.YtlmgckijbamgpaaFltT
namespace Go.Proofs.Ytlmgckijbamgpaa
set_option linter.unusedVariables false
set_option linter.unusedSimpArgs false
open Go.ChangeShapes Go.WideShapes Go.ChangeAt Go.RowKit
set_option maxRecDepth 100000

theorem fpos_eq (fl : List (Fld × Int)) (no : Int) : fpos (fl.map (·.1)) no = fidx (fun q => q.1.no == no) fl := by
  unfold fpos fidxI fidx
  rw [List.findIdx?_map]
  rfl
theorem fidx_bd {α : Type} (p : α → Bool) (xs : List α) : -1 ≤ fidx p xs ∧ fidx p xs < (xs.length : Int) := by
  unfold fidx
  cases h : xs.findIdx? p with
  | none => simp only; omega
  | some i =>
    obtain ⟨hi, _⟩ := List.findIdx?_eq_some_iff_getElem.1 h
    simp only; omega
def rtest (no : Int) (q : Fld × Int) : Bool := q.1.no == no
set_option maxHeartbeats 1000000 in
theorem clo_run (c : Nat) (no : Int) (q : Fld × Int) (w : World) (c2 : w.cell? ⟨c, 2, none⟩ = some (.int .i64 no)) :
    Calls Try.prog 99 #[.agg #[.int .i64 q.1.no, .int .i64 q.1.kind, .int .i64 q.1.num, .string q.1.data, .int .i64 q.2], .pointer (some ⟨c, 0, none⟩)] w fun e w' => e = .returned (.bool (rtest no q)) ∧ Below w.heap.size w w' := by
  obtain ⟨⟨xn, xk, xm, xd⟩, xa⟩ := q
  unfold rtest
  simp only
  have hc := World.block_lt_of_cell? w _ c2
  have HB := Lib.hid (box_start w (.cells #[.int .i64 xn, .int .i64 xk, .int .i64 xm, .string xd, .int .i64 xa] 119))
  generalize hr : (xn == no) = r
  go_enter Try.func99, Try.ntmps99
  go_wp2_with fail
  go_ret
  exact ⟨rfl, box_below HB.out⟩
set_option maxHeartbeats 2000000 in
theorem idx_run {w : World} (c : Nat) (no : Int) (hc : c < w.heap.size) (c2 : w.cell? ⟨c, 2, none⟩ = some (.int .i64 no)) (a : Option Addr) (cap : Nat) (l : List (Fld × Int)) (hrow : Rw w a (pvs l)) (hn : l.length ≤ 1048576) :
    Calls Try.prog 98 #[.slice a l.length cap, .func (.func 99) #[] #[.pointer (some ⟨c, 0, none⟩)]] w fun e w' => e = .returned (.int .i64 (fidx (rtest no) l)) ∧ Below w.heap.size w w' := by
  have HROW := Lib.hid hrow
  clear hrow
  have HCLO : Hid (∀ (p : Fld × Int) (wx : World), Below w.heap.size w wx → Calls Try.prog 99 #[.agg #[.int .i64 p.1.no, .int .i64 p.1.kind, .int .i64 p.1.num, .string p.1.data, .int .i64 p.2], .pointer (some ⟨c, 0, none⟩)] wx fun e w' => e = .returned (.bool (rtest no p)) ∧ Below wx.heap.size wx w') :=
    Lib.hid (fun p wx hb => clo_run c no p wx (below_later hb c2))
  generalize rtest no = p at *
  clear c2
  go_enter Try.func98, Try.ntmps98
  go_wp2_with fail
  go_loopw [8] (fun i wr => ∃ k : Nat, k ≤ l.length ∧ i = .int .i64 k ∧ Hid ((l.take k).any p = false) ∧ Hid (Below w.heap.size w wr)) (fun i _ => l.length - (intOf i).toNat)
  case atStart => exact ⟨0, Nat.zero_le _, rfl, rfl, Below.refl _ _⟩
  case round =>
    obtain ⟨k, hk, rfl, HA, HB⟩ := hrel
    by_cases hlk : k < l.length
    case neg =>
      go_wp2_with fail
      go_ret
      obtain rfl : k = l.length := by omega
      have h1 := HA.out
      rw [List.take_length] at h1
      exact ⟨ret_int (fidx_none p l h1).symm, HB.out⟩
    obtain ⟨x, hx⟩ : ∃ x, l[k]? = some x := ⟨l[k], List.getElem?_eq_getElem hlk⟩
    have hgd : l.getD k x = x := by simp [List.getD, hx]
    have hyes : p x = true → fidx p l = k := fun h => fidx_here p l x k hlk HA.out (by rw [hgd]; exact h)
    have hno : p x = false → (l.take (k + 1)).any p = false := fun h => fidx_next p l x k hlk HA.out (by rw [hgd]; exact h)
    obtain ⟨q0, q1, q2, q3, q4⟩ := pvs_at l k x hx
    obtain ⟨b, off, rfl, hbl, hcc⟩ := HROW.out.at (fun e => by have := congrArg List.length e; rw [pvs_len] at this; simp at this; omega)
    have HC := Lib.hid (HCLO.out x wr HB.out)
    have HY := Lib.hid hyes; have HN := Lib.hid hno
    have hbr : b < wr.heap.size := Nat.lt_of_lt_of_le hbl HB.out.size
    have d0 := (HB.out.cell (p := ⟨b, off + k * 5, none⟩) hbl).trans (hcc _ _ q0)
    have d1 : wr.cell? ⟨b, off + k * 5 + 1, none⟩ = _ := (HB.out.cell (p := ⟨b, off + (k * 5 + 1), none⟩) hbl).trans (hcc _ _ q1)
    have d2 : wr.cell? ⟨b, off + k * 5 + 2, none⟩ = _ := (HB.out.cell (p := ⟨b, off + (k * 5 + 2), none⟩) hbl).trans (hcc _ _ q2)
    have d3 : wr.cell? ⟨b, off + k * 5 + 3, none⟩ = _ := (HB.out.cell (p := ⟨b, off + (k * 5 + 3), none⟩) hbl).trans (hcc _ _ q3)
    have d4 : wr.cell? ⟨b, off + k * 5 + 4, none⟩ = _ := (HB.out.cell (p := ⟨b, off + (k * 5 + 4), none⟩) hbl).trans (hcc _ _ q4)
    clear hx hgd hyes hno q0 q1 q2 q3 q4 hcc
    obtain ⟨⟨xn, xk, xm, xd⟩, xa⟩ := x
    simp only at d0 d1 d2 d3 d4 HC
    cases hp : p (⟨xn, xk, xm, xd⟩, xa) with
    | true =>
      rw [hp] at HC
      have HP := Lib.hid hp; clear hp
      go_wp2_with (go_at_call 99; refine HC.out.mono ?_; rintro e w2 ⟨rfl, hb2⟩; have HB2 := Lib.hid hb2; clear hb2)
      go_ret
      exact ⟨ret_int (HY.out HP.out).symm, HB.out.trans (HB2.out.mono HB.out.size)⟩
    | false =>
      rw [hp] at HC
      have HP := Lib.hid hp; clear hp
      go_wp2_with (go_at_call 99; refine HC.out.mono ?_; rintro e w2 ⟨rfl, hb2⟩; have HB2 := Lib.hid hb2; clear hb2)
      go_roundw
      case rel => exact ⟨k + 1, by omega, by go_num, HN.out HP.out, HB.out.trans (HB2.out.mono HB.out.size)⟩
      case measure => simp [intOf]; omega
set_option maxHeartbeats 1000000 in
theorem impl_Run_no (pa : Option Addr) (pc : Nat) (p : List Ins) (s : ByteArray) (w : World) (hs : s.size ≤ 1048576) (hr : R_Rising s = none) : Calls Try.prog 43 #[.agg #[.slice pa p.length pc], .string s] w fun e w' => e = .returned (.tuple #[.bool false, .int .i64 0, .bool false]) ∧ Below w.heap.size w w' := by
  have HRF := Lib.hid (fun wx => impl_risingFields s wx hs)
  rw [hr] at HRF
  unfold PlO at HRF
  have HB0 := Lib.hid ((Below.refl w.heap.size w).alloc (Nat.le_refl _) (.cells #[.slice pa p.length pc] 66))
  clear hr
  go_enter Try.func43, Try.ntmps43
  go_wp2_with fail
  refine (HRF.out _).mono ?_
  rintro e w1 ⟨v, fl, rfl, ho, hb, _, _⟩
  have HB1 := Lib.hid (rstep HB0.out hb)
  clear ho hb
  go_wp2_with fail
  go_ret3
  exact ⟨rfl, HB1.out⟩
def RunO (R : Bool) (n : Nat) (w : World) (e : Ending) (w' : World) : Prop := ∃ t : Nat, e = .returned (.tuple #[.bool R, .int .i64 (t : Int), .bool true]) ∧ t ≤ n ∧ Below w.heap.size w w'
theorem runs_code {p : List Ins} {fs : List Fld} {k : Nat} {flag : Bool} {pl : Int} {R : Bool} {x : Ins} (h : Runs p fs k flag pl R) (hx : p[k]? = some x) : (x.code = 5 → R = flag) ∧ (¬ x.code = 5 → Runs p fs (nxt x fs k flag pl).1 (nxt x fs k flag pl).2.1 (nxt x fs k flag pl).2.2 R) := by
  obtain ⟨y, hy, h⟩ := h.inv
  rw [hx] at hy
  cases hy
  rcases h with ⟨h1, h2⟩ | ⟨h1, h2⟩
  · exact ⟨fun _ => h2, fun h => absurd h1 h⟩
  · exact ⟨fun h => absurd h h1, fun _ => h2⟩
set_option maxHeartbeats 8000000 in
theorem impl_Run_yes (pa : Option Addr) (pc : Nat) (p : List Ins) (s : ByteArray) (w : World) (hrow : Rw w pa (insV p)) (hg : GoodP p) (hs : s.size ≤ 1048576) {fs : List Fld} {R : Bool} (hf : R_Rising s = some fs) (hr : Runs p fs 0 false (-1) R) : Calls Try.prog 43 #[.agg #[.slice pa p.length pc], .string s] w (RunO R p.length w) := by
  have HRF := Lib.hid (fun wx => impl_risingFields s wx hs)
  rw [hf] at HRF
  unfold PlO at HRF
  have HGP := Lib.hid (fun wx (h : Rw wx pa (insV p)) => impl_GoodProgram pa pc p wx h hg)
  have HROW := Lib.hid hrow
  have HG := Lib.hid hg.2
  have h60 := hg.1.2
  have h1 := hg.1.1
  have HRUN := Lib.hid hr
  have HA : Hid ((w.alloc (.cells #[.slice pa p.length pc] 66)).cell? ⟨w.heap.size, 0, none⟩ = some (.slice pa p.length pc)) := Lib.hid (box_cell (box_start w (.cells #[.slice pa p.length pc] 66)) 0)
  have HB0 := Lib.hid ((Below.refl w.heap.size w).alloc (Nat.le_refl _) (.cells #[.slice pa p.length pc] 66))
  obtain ⟨n, hn⟩ : ∃ n, p.length = n := ⟨_, rfl⟩
  have HLN := Lib.hid hn
  rw [hn] at HGP HG h60 h1 HA HB0 ⊢
  clear hrow hg hn hf hr hs
  go_enter Try.func43, Try.ntmps43
  go_wp2_with fail
  generalize w.alloc (.cells #[.slice pa n pc] 66) = w1 at *
  refine (HRF.out _).mono ?_
  rintro e w2 ⟨v, fl, rfl, ho, hb, hf40, hrr⟩
  have HFS : Hid (fs = fl.map (·.1)) := Lib.hid (hrr fs rfl)
  have HB2 := Lib.hid (rstep HB0.out hb)
  have HBA := Lib.hid hb
  obtain ⟨va, vc, rfl⟩ := form_of_own ho
  have HO := Lib.hid ho
  have y0 := below_later hb HA.out
  clear ho hb hrr
  obtain ⟨m, hm⟩ : ∃ m, fl.length = m := ⟨_, rfl⟩
  have HM := Lib.hid hm
  rw [hm] at HO hf40
  rw [hm]
  clear hm
  go_wp2_with fail
  refine (HGP.out _ (HROW.out.below HB2.out)).mono ?_
  rintro e w3 ⟨rfl, hb⟩
  have HB3 := Lib.hid (rstep HB2.out hb)
  have HO3 := Lib.hid (own_rw (own_later HO.out hb))
  have HA3 := Lib.hid (below_later hb y0)
  clear hb y0
  go_wp2_with fail
  go_loopw [9, 10, 11, 12] (fun fv pv sv av wr => ∃ (k t : Nat) (flag : Bool) (pl : Int), fv = .bool flag ∧ pv = .int .i64 pl ∧ sv = .int .i64 (t : Int) ∧ av = .int .i64 (k : Int) ∧ k < n ∧ t ≤ k ∧ (-1 ≤ pl ∧ pl < (m : Int)) ∧ Hid (Runs p fs k flag pl R) ∧ Hid (Below w3.heap.size w3 wr)) (fun _ _ _ av _ => n - (intOf av).toNat)
  case atStart => exact ⟨0, 0, false, -1, rfl, rfl, by go_num, by go_num, by omega, by omega, by omega, HRUN, Lib.hid (Below.refl _ _)⟩
  case round =>
    clear HRUN
    obtain ⟨wx, rfl⟩ : ∃ z : World, z = wr := ⟨_, rfl⟩
    obtain ⟨k, t, flag, pl, rfl, rfl, rfl, rfl, hkn, htk, hpl, HR, HBX⟩ := hrel
    obtain ⟨x, hx⟩ : ∃ x, p[k]? = some x := ⟨p[k]'(by have := HLN.out; omega), List.getElem?_eq_getElem _⟩
    have HBW := Lib.hid (rstep HB3.out HBX.out)
    have hgood := HG.out k x hx
    have hrc := runs_code HR.out hx
    obtain ⟨b, off, rfl, hbx, hbw, c0, c1, c2, c3, c4, c5⟩ := rowI HROW.out HBW.out hx
    clear hx
    have g0 := below_later HBX.out HA3.out
    obtain ⟨cd, kd, no, nm, tx, ds⟩ := x
    simp only at c0 c1 c2 c3 c4 c5
    have HX := Lib.hid (heap_alloc_new wx (.cells #[.int .i64 cd, .int .i64 kd, .int .i64 no, .int .i64 nm, .string tx, .int .i64 ds] 125))
    have HBY := Lib.hid (ralloc HBX.out (.cells #[.int .i64 cd, .int .i64 kd, .int .i64 no, .int .i64 nm, .string tx, .int .i64 ds] 125))
    have HSY : Hid (wx.heap.size < (wx.alloc (.cells #[.int .i64 cd, .int .i64 kd, .int .i64 no, .int .i64 nm, .string tx, .int .i64 ds] 125)).heap.size) := Lib.hid (by simp)
    generalize hwy : wx.alloc (.cells #[.int .i64 cd, .int .i64 kd, .int .i64 no, .int .i64 nm, .string tx, .int .i64 ds] 125) = wy at *
    obtain ⟨z0, z1, z2, z3, z4, z5⟩ := box6 HX.out
    unfold goodI at hgood
    simp only at hgood
    rcases hgood with ⟨rfl, hk1, -⟩ | ⟨rfl, hk1, -⟩ | ⟨rfl, hk1, h2, h3, -⟩ | ⟨rfl, hk1, -⟩ | ⟨rfl, hk1, -⟩
    · have hrun := hrc.2 (show ¬ (1 : Int) = 5 by decide)
      have e : nxt ⟨1, kd, no, nm, tx, ds⟩ fs k flag pl = (k + 1, flag, fpos fs no) := rfl
      rw [e, HFS.out, fpos_eq, ← HFS.out] at hrun
      have HRN := Lib.hid hrun
      have hbd := fidx_bd (rtest no) fl
      rw [HM.out] at hbd
      have HIX := Lib.hid (idx_run wx.heap.size no HSY.out z2 va vc fl (HO3.out.below HBY.out) (by have := HM.out; omega))
      rw [HM.out] at HIX
      have e2 : (fun q : Fld × Int => q.1.no == no) = rtest no := rfl
      rw [e2] at HRN
      generalize fidx (rtest no) fl = pl' at *
      clear hrun hrc e e2
      go_wp2_with fail
      refine HIX.out.mono ?_
      rintro e w5 ⟨rfl, hb⟩
      have HB5 := Lib.hid (rstep HBY.out hb); clear hb
      go_wp2_with fail
      go_roundw
      case rel => exact ⟨k + 1, t + 1, flag, pl', rfl, rfl, by go_num, by go_num, by omega, by omega, hbd, HRN, HB5⟩
      case measure => (simp [intOf]; try omega)
    · have hrun := hrc.2 (show ¬ (2 : Int) = 5 by decide)
      have e : nxt ⟨2, kd, no, nm, tx, ds⟩ fs k flag pl = (k + 1, tstI fs pl ⟨2, kd, no, nm, tx, ds⟩, pl) := rfl
      rw [e] at hrun
      by_cases hpl0 : 0 ≤ pl
      case neg =>
        have e2 : tstI fs pl ⟨2, kd, no, nm, tx, ds⟩ = false := by unfold tstI; rw [decide_eq_false hpl0, Bool.false_and]
        rw [e2] at hrun
        have HRN := Lib.hid hrun
        clear hrun hrc e e2
        obtain rfl : pl = -1 := by omega
        go_wp2_with fail
        refine wp_region_G [] (fun _ => True) (by kernel_rfl) ?_ (fun hHeld => ?_)
        · trivial
        refine wpG_pure (i := 0) (oi := { dst := some 46, op := Go.Op.move (Go.Operand.tmp 10), type := 3, pos := "l8_program.go:101", after := #[], guard := none }) (v := ?vg1) rfl (by kernel_rfl) (fun _ _ _ h => h) (Or.inr hHeld) (Or.inl ⟨by rfl, ?yg1⟩) ?_
        case yg1 => (intro wS _; go_simp <;> with_reducible rfl)
        try simp only [Act.put, List.setIfInBounds_toArray, List.set_cons_zero, List.set_cons_succ]
        refine wpG_pure (i := 1) (oi := { dst := some 47, op := Go.Op.binOp Go.BinOp.geq 3 (Go.Operand.tmp 46) (Go.Operand.const (Go.Value.int Go.IntKind.i64 0)) 3, type := 4, pos := "l8_program.go:101", after := #[{ on := 0, ground := Go.Ground.data }], guard := none }) (v := ?vg2) rfl (by kernel_rfl) (fun _ _ _ h => h) (Or.inr hHeld) (Or.inl ⟨by rfl, ?yg2⟩) ?_
        case yg2 => (intro wS _; go_simp <;> with_reducible rfl)
        try simp only [Act.put, List.setIfInBounds_toArray, List.set_cons_zero, List.set_cons_succ]
        refine wpG_pure (i := 2) (oi := { dst := some 48, op := Go.Op.move (Go.Operand.tmp 47), type := 4, pos := "l8_program.go:101", after := #[{ on := 1, ground := Go.Ground.data }], guard := none }) (v := ?vg3) rfl (by kernel_rfl) (fun _ _ _ h => h) (Or.inr hHeld) (Or.inl ⟨by rfl, ?yg3⟩) ?_
        case yg3 => (intro wS _; go_simp <;> with_reducible rfl)
        try simp only [Act.put, List.setIfInBounds_toArray, List.set_cons_zero, List.set_cons_succ]
        refine wpG_pure (i := 3) (oi := { dst := some 49, op := Go.Op.move (Go.Operand.tmp 7), type := 115, pos := "l8_program.go:101", after := #[{ on := 2, ground := Go.Ground.guard }], guard := some (2, true) }) (v := undef) rfl (by kernel_rfl) (fun _ _ _ h => h) (Or.inr hHeld) (Or.inr ⟨by rfl, rfl⟩) ?_
        try simp only [Act.put, List.setIfInBounds_toArray, List.set_cons_zero, List.set_cons_succ]
        refine wpG_pure (i := 4) (oi := { dst := some 50, op := Go.Op.move (Go.Operand.tmp 10), type := 3, pos := "l8_program.go:101", after := #[{ on := 2, ground := Go.Ground.guard }], guard := some (2, true) }) (v := undef) rfl (by kernel_rfl) (fun _ _ _ h => h) (Or.inr hHeld) (Or.inr ⟨by rfl, rfl⟩) ?_
        try simp only [Act.put, List.setIfInBounds_toArray, List.set_cons_zero, List.set_cons_succ]
        refine wpG_pure (i := 5) (oi := { dst := some 51, op := Go.Op.call { callee := Go.Callee.builtin Go.Builtin.max, args := #[Go.Operand.tmp 50, Go.Operand.const (Go.Value.int Go.IntKind.i64 0)], argTypes := #[3, 3] }, type := 3, pos := "l8_program.go:101", after := #[{ on := 4, ground := Go.Ground.data }, { on := 2, ground := Go.Ground.guard }], guard := some (2, true) }) (v := undef) rfl (by kernel_rfl) (fun _ _ _ h => h) (Or.inr hHeld) (Or.inr ⟨by rfl, rfl⟩) ?_
        try simp only [Act.put, List.setIfInBounds_toArray, List.set_cons_zero, List.set_cons_succ]
        refine wpG_pure (i := 6) (oi := { dst := some 52, op := Go.Op.indexAddr 115 (Go.Operand.tmp 49) (Go.Operand.tmp 51), type := 0, pos := "l8_program.go:101", after := #[{ on := 3, ground := Go.Ground.data }, { on := 5, ground := Go.Ground.data }, { on := 2, ground := Go.Ground.guard }], guard := some (2, true) }) (v := undef) rfl (by kernel_rfl) (fun _ _ _ h => h) (Or.inr hHeld) (Or.inr ⟨by rfl, rfl⟩) ?_
        try simp only [Act.put, List.setIfInBounds_toArray, List.set_cons_zero, List.set_cons_succ]
        refine wpG_pure (i := 7) (oi := { dst := some 53, op := Go.Op.fieldAddr 119 (Go.Operand.tmp 52) 0, type := 0, pos := "l8_program.go:101", after := #[{ on := 6, ground := Go.Ground.data }, { on := 2, ground := Go.Ground.guard }], guard := some (2, true) }) (v := undef) rfl (by kernel_rfl) (fun _ _ _ h => h) (Or.inr hHeld) (Or.inr ⟨by rfl, rfl⟩) ?_
        try simp only [Act.put, List.setIfInBounds_toArray, List.set_cons_zero, List.set_cons_succ]
        refine wpG_pure (i := 8) (oi := { dst := some 54, op := Go.Op.load 57 (Go.Operand.tmp 53), type := 57, pos := "l8_program.go:101", after := #[{ on := 7, ground := Go.Ground.data }, { on := 2, ground := Go.Ground.guard }], guard := some (2, true) }) (v := undef) rfl (by kernel_rfl) (fun _ _ _ h => h) (Or.inr hHeld) (Or.inr ⟨by rfl, rfl⟩) ?_
        try simp only [Act.put, List.setIfInBounds_toArray, List.set_cons_zero, List.set_cons_succ]
        refine wpG_pure (i := 9) (oi := { dst := some 55, op := Go.Op.fieldAddr 125 (Go.Operand.tmp 13) 1, type := 0, pos := "l8_program.go:101", after := #[{ on := 2, ground := Go.Ground.guard }], guard := some (2, true) }) (v := undef) rfl (by kernel_rfl) (fun _ _ _ h => h) (Or.inr hHeld) (Or.inr ⟨by rfl, rfl⟩) ?_
        try simp only [Act.put, List.setIfInBounds_toArray, List.set_cons_zero, List.set_cons_succ]
        refine wpG_pure (i := 10) (oi := { dst := some 56, op := Go.Op.load 3 (Go.Operand.tmp 55), type := 3, pos := "l8_program.go:101", after := #[{ on := 9, ground := Go.Ground.data }, { on := 2, ground := Go.Ground.guard }], guard := some (2, true) }) (v := undef) rfl (by kernel_rfl) (fun _ _ _ h => h) (Or.inr hHeld) (Or.inr ⟨by rfl, rfl⟩) ?_
        try simp only [Act.put, List.setIfInBounds_toArray, List.set_cons_zero, List.set_cons_succ]
        refine wpG_pure (i := 11) (oi := { dst := some 57, op := Go.Op.fieldAddr 125 (Go.Operand.tmp 13) 3, type := 0, pos := "l8_program.go:101", after := #[{ on := 2, ground := Go.Ground.guard }], guard := some (2, true) }) (v := undef) rfl (by kernel_rfl) (fun _ _ _ h => h) (Or.inr hHeld) (Or.inr ⟨by rfl, rfl⟩) ?_
        try simp only [Act.put, List.setIfInBounds_toArray, List.set_cons_zero, List.set_cons_succ]
        refine wpG_pure (i := 12) (oi := { dst := some 58, op := Go.Op.load 3 (Go.Operand.tmp 57), type := 3, pos := "l8_program.go:101", after := #[{ on := 11, ground := Go.Ground.data }, { on := 2, ground := Go.Ground.guard }], guard := some (2, true) }) (v := undef) rfl (by kernel_rfl) (fun _ _ _ h => h) (Or.inr hHeld) (Or.inr ⟨by rfl, rfl⟩) ?_
        try simp only [Act.put, List.setIfInBounds_toArray, List.set_cons_zero, List.set_cons_succ]
        refine wpG_pure (i := 13) (oi := { dst := some 59, op := Go.Op.fieldAddr 125 (Go.Operand.tmp 13) 4, type := 0, pos := "l8_program.go:101", after := #[{ on := 2, ground := Go.Ground.guard }], guard := some (2, true) }) (v := undef) rfl (by kernel_rfl) (fun _ _ _ h => h) (Or.inr hHeld) (Or.inr ⟨by rfl, rfl⟩) ?_
        try simp only [Act.put, List.setIfInBounds_toArray, List.set_cons_zero, List.set_cons_succ]
        refine wpG_pure (i := 14) (oi := { dst := some 60, op := Go.Op.load 9 (Go.Operand.tmp 59), type := 9, pos := "l8_program.go:101", after := #[{ on := 13, ground := Go.Ground.data }, { on := 2, ground := Go.Ground.guard }], guard := some (2, true) }) (v := undef) rfl (by kernel_rfl) (fun _ _ _ h => h) (Or.inr hHeld) (Or.inr ⟨by rfl, rfl⟩) ?_
        try simp only [Act.put, List.setIfInBounds_toArray, List.set_cons_zero, List.set_cons_succ]
        refine wpG_pure (i := 15) (oi := { dst := some 61, op := Go.Op.call { callee := Go.Callee.value (Go.Operand.func 100), args := #[Go.Operand.tmp 54, Go.Operand.tmp 56, Go.Operand.tmp 58, Go.Operand.tmp 60], argTypes := #[57, 3, 3, 9] }, type := 4, pos := "l8_program.go:101", after := #[{ on := 8, ground := Go.Ground.data }, { on := 10, ground := Go.Ground.data }, { on := 12, ground := Go.Ground.data }, { on := 14, ground := Go.Ground.data }, { on := 2, ground := Go.Ground.chain }, { on := 2, ground := Go.Ground.guard }], guard := some (2, true) }) (v := undef) rfl (by kernel_rfl) (fun _ _ _ h => h) (Or.inr hHeld) (Or.inr ⟨by rfl, rfl⟩) ?_
        try simp only [Act.put, List.setIfInBounds_toArray, List.set_cons_zero, List.set_cons_succ]
        refine wpG_pure (i := 16) (oi := { dst := some 62, op := Go.Op.pick (Go.Operand.tmp 48) (Go.Operand.tmp 61) (Go.Operand.const (Go.Value.bool false)), type := 4, pos := "l8_program.go:101", after := #[{ on := 2, ground := Go.Ground.data }, { on := 15, ground := Go.Ground.data }], guard := none }) (v := ?vg17) rfl (by kernel_rfl) (fun _ _ _ h => h) (Or.inr hHeld) (Or.inl ⟨by rfl, ?yg17⟩) ?_
        case yg17 => (intro wS _; go_simp <;> with_reducible rfl)
        try simp only [Act.put, List.setIfInBounds_toArray, List.set_cons_zero, List.set_cons_succ]
        refine wpG_pure (i := 17) (oi := { dst := some 9, op := Go.Op.assign (Go.Operand.tmp 62), type := 4, pos := "l8_program.go:101", after := #[{ on := 16, ground := Go.Ground.data }, { on := 15, ground := Go.Ground.chain }, { on := 0, ground := Go.Ground.phase }, { on := 1, ground := Go.Ground.phase }, { on := 2, ground := Go.Ground.phase }, { on := 3, ground := Go.Ground.phase }, { on := 4, ground := Go.Ground.phase }, { on := 5, ground := Go.Ground.phase }, { on := 6, ground := Go.Ground.phase }, { on := 7, ground := Go.Ground.phase }, { on := 8, ground := Go.Ground.phase }, { on := 9, ground := Go.Ground.phase }, { on := 10, ground := Go.Ground.phase }, { on := 11, ground := Go.Ground.phase }, { on := 12, ground := Go.Ground.phase }, { on := 13, ground := Go.Ground.phase }, { on := 14, ground := Go.Ground.phase }, { on := 15, ground := Go.Ground.phase }, { on := 16, ground := Go.Ground.phase }], guard := none }) (v := ?vg18) rfl (by kernel_rfl) (fun _ _ _ h => h) (Or.inr hHeld) (Or.inl ⟨by rfl, ?yg18⟩) ?_
        case yg18 => (intro wS _; go_simp <;> with_reducible rfl)
        try simp only [Act.put, List.setIfInBounds_toArray, List.set_cons_zero, List.set_cons_succ]
        refine wpG_done (by kernel_rfl) ?_
        skip
        go_wp2_with fail
        go_roundw
        case rel => exact ⟨k + 1, t + 1, false, -1, rfl, rfl, by go_num, by go_num, by omega, by omega, hpl, HRN, Lib.hid (below_drew HBY.out)⟩
        case measure => (simp [intOf]; try omega)
      obtain ⟨j, rfl⟩ : ∃ j : Nat, pl = (j : Int) := ⟨pl.toNat, by omega⟩
      have hjm : j < m := by omega
      obtain ⟨q, hq⟩ : ∃ q, fl[j]? = some q := ⟨fl[j]'(by have := HM.out; omega), List.getElem?_eq_getElem _⟩
      have e2 : tstI fs (j : Int) ⟨2, kd, no, nm, tx, ds⟩ = fldA q.1.kind q.1.num q.1.data kd nm tx := by
        unfold tstI
        rw [decide_eq_true hpl0, Bool.true_and, Int.toNat_natCast, HFS.out, List.getElem?_map, hq]
        rfl
      rw [e2] at hrun
      have HRN := Lib.hid hrun
      obtain ⟨q0, q1, q2, q3, q4⟩ := pvs_at fl j q hq
      obtain ⟨b2, o2, rfl, hbl2, hcc⟩ := (HO3.out.below HBY.out).at (fun e => by have := congrArg List.length e; rw [pvs_len, HM.out] at this; simp at this; omega)
      have d0 := hcc _ _ q0
      have d1 : wy.cell? ⟨b2, o2 + j * 5 + 1, none⟩ = _ := hcc _ _ q1
      have d2 : wy.cell? ⟨b2, o2 + j * 5 + 2, none⟩ = _ := hcc _ _ q2
      have d3 : wy.cell? ⟨b2, o2 + j * 5 + 3, none⟩ = _ := hcc _ _ q3
      clear hrun hrc e e2 hq q0 q1 q2 q3 q4 hcc
      obtain ⟨⟨xn, xk, xm, xd⟩, xa⟩ := q
      simp only at d0 d1 d2 d3 HRN
      have HFI := Lib.hid (fun wx => impl_fieldIs xn xk xm xd kd nm tx wx)
      generalize fldA xk xm xd kd nm tx = rr at *
      have hmx : (if (j : Int) < 0 then (0 : Int) else (j : Int)) = (j : Int) := if_neg (by omega)
      go_wp2_with fail
      refine wp_region_G [15] (fun w' => (w'.cell? ⟨wx.heap.size, 1, none⟩ = some (.int .i64 kd) ∧ w'.cell? ⟨wx.heap.size, 3, none⟩ = some (.int .i64 nm) ∧ w'.cell? ⟨wx.heap.size, 4, none⟩ = some (.string tx)) ∧ w'.cell? ⟨b2, o2 + j * 5, none⟩ = some (.int .i64 xn) ∧ w'.cell? ⟨b2, o2 + j * 5 + 1, none⟩ = some (.int .i64 xk) ∧ w'.cell? ⟨b2, o2 + j * 5 + 2, none⟩ = some (.int .i64 xm) ∧ w'.cell? ⟨b2, o2 + j * 5 + 3, none⟩ = some (.string xd)) (by kernel_rfl) ?_ (fun hHeld => ?_)
      · exact ⟨⟨z1, z3, z4⟩, d0, d1, d2, d3⟩
      refine wpG_pure (i := 0) (oi := { dst := some 46, op := Go.Op.move (Go.Operand.tmp 10), type := 3, pos := "l8_program.go:101", after := #[], guard := none }) (v := ?vg19) rfl (by kernel_rfl) (fun _ _ _ h => h) (Or.inr hHeld) (Or.inl ⟨by rfl, ?yg19⟩) ?_
      case yg19 => (intro wS _; go_simp <;> with_reducible rfl)
      try simp only [Act.put, List.setIfInBounds_toArray, List.set_cons_zero, List.set_cons_succ]
      refine wpG_pure (i := 1) (oi := { dst := some 47, op := Go.Op.binOp Go.BinOp.geq 3 (Go.Operand.tmp 46) (Go.Operand.const (Go.Value.int Go.IntKind.i64 0)) 3, type := 4, pos := "l8_program.go:101", after := #[{ on := 0, ground := Go.Ground.data }], guard := none }) (v := ?vg20) rfl (by kernel_rfl) (fun _ _ _ h => h) (Or.inr hHeld) (Or.inl ⟨by rfl, ?yg20⟩) ?_
      case yg20 => (intro wS _; go_simp <;> with_reducible rfl)
      try simp only [Act.put, List.setIfInBounds_toArray, List.set_cons_zero, List.set_cons_succ]
      refine wpG_pure (i := 2) (oi := { dst := some 48, op := Go.Op.move (Go.Operand.tmp 47), type := 4, pos := "l8_program.go:101", after := #[{ on := 1, ground := Go.Ground.data }], guard := none }) (v := ?vg21) rfl (by kernel_rfl) (fun _ _ _ h => h) (Or.inr hHeld) (Or.inl ⟨by rfl, ?yg21⟩) ?_
      case yg21 => (intro wS _; go_simp <;> with_reducible rfl)
      try simp only [Act.put, List.setIfInBounds_toArray, List.set_cons_zero, List.set_cons_succ]
      refine wpG_pure (i := 3) (oi := { dst := some 49, op := Go.Op.move (Go.Operand.tmp 7), type := 115, pos := "l8_program.go:101", after := #[{ on := 2, ground := Go.Ground.guard }], guard := some (2, true) }) (v := ?vg22) rfl (by kernel_rfl) (fun _ _ _ h => h) (Or.inr hHeld) (Or.inl ⟨by rfl, ?yg22⟩) ?_
      case yg22 => (intro wS _; go_simp <;> with_reducible rfl)
      try simp only [Act.put, List.setIfInBounds_toArray, List.set_cons_zero, List.set_cons_succ]
      refine wpG_pure (i := 4) (oi := { dst := some 50, op := Go.Op.move (Go.Operand.tmp 10), type := 3, pos := "l8_program.go:101", after := #[{ on := 2, ground := Go.Ground.guard }], guard := some (2, true) }) (v := ?vg23) rfl (by kernel_rfl) (fun _ _ _ h => h) (Or.inr hHeld) (Or.inl ⟨by rfl, ?yg23⟩) ?_
      case yg23 => (intro wS _; go_simp <;> with_reducible rfl)
      try simp only [Act.put, List.setIfInBounds_toArray, List.set_cons_zero, List.set_cons_succ]
      refine wpG_pure (i := 5) (oi := { dst := some 51, op := Go.Op.call { callee := Go.Callee.builtin Go.Builtin.max, args := #[Go.Operand.tmp 50, Go.Operand.const (Go.Value.int Go.IntKind.i64 0)], argTypes := #[3, 3] }, type := 3, pos := "l8_program.go:101", after := #[{ on := 4, ground := Go.Ground.data }, { on := 2, ground := Go.Ground.guard }], guard := some (2, true) }) (v := ?vg24) rfl (by kernel_rfl) (fun _ _ _ h => h) (Or.inr hHeld) (Or.inl ⟨by rfl, ?yg24⟩) ?_
      case yg24 => (intro wS _; go_simp <;> with_reducible rfl)
      try simp only [Act.put, List.setIfInBounds_toArray, List.set_cons_zero, List.set_cons_succ]
      refine wpG_pure (i := 6) (oi := { dst := some 52, op := Go.Op.indexAddr 115 (Go.Operand.tmp 49) (Go.Operand.tmp 51), type := 0, pos := "l8_program.go:101", after := #[{ on := 3, ground := Go.Ground.data }, { on := 5, ground := Go.Ground.data }, { on := 2, ground := Go.Ground.guard }], guard := some (2, true) }) (v := ?vg25) rfl (by kernel_rfl) (fun _ _ _ h => h) (Or.inr hHeld) (Or.inl ⟨by rfl, ?yg25⟩) ?_
      case yg25 => (intro wS _; go_simp <;> with_reducible rfl)
      try simp only [Act.put, List.setIfInBounds_toArray, List.set_cons_zero, List.set_cons_succ]
      refine wpG_pure (i := 7) (oi := { dst := some 53, op := Go.Op.fieldAddr 119 (Go.Operand.tmp 52) 0, type := 0, pos := "l8_program.go:101", after := #[{ on := 6, ground := Go.Ground.data }, { on := 2, ground := Go.Ground.guard }], guard := some (2, true) }) (v := ?vg26) rfl (by kernel_rfl) (fun _ _ _ h => h) (Or.inr hHeld) (Or.inl ⟨by rfl, ?yg26⟩) ?_
      case yg26 => (intro wS _; go_simp <;> with_reducible rfl)
      try simp only [Act.put, List.setIfInBounds_toArray, List.set_cons_zero, List.set_cons_succ]
      refine wpG_load (i := 8) (oi := { dst := some 54, op := Go.Op.load 57 (Go.Operand.tmp 53), type := 57, pos := "l8_program.go:101", after := #[{ on := 7, ground := Go.Ground.data }, { on := 2, ground := Go.Ground.guard }], guard := some (2, true) }) (v := ?vg27) [[15, 8]] rfl (by kernel_rfl) (fun _ _ _ h => h) hHeld (Or.inl ⟨by rfl, ?yg27⟩) ?_
      case yg27 => (intro wS hSw; (try dsimp only at hSw); go_simp <;> with_reducible rfl)
      try simp only [Act.put, List.setIfInBounds_toArray, List.set_cons_zero, List.set_cons_succ]
      refine wpG_pure (i := 9) (oi := { dst := some 55, op := Go.Op.fieldAddr 125 (Go.Operand.tmp 13) 1, type := 0, pos := "l8_program.go:101", after := #[{ on := 2, ground := Go.Ground.guard }], guard := some (2, true) }) (v := ?vg28) rfl (by kernel_rfl) (fun _ _ _ h => h) (Or.inr hHeld) (Or.inl ⟨by rfl, ?yg28⟩) ?_
      case yg28 => (intro wS _; go_simp <;> with_reducible rfl)
      try simp only [Act.put, List.setIfInBounds_toArray, List.set_cons_zero, List.set_cons_succ]
      refine wpG_load (i := 10) (oi := { dst := some 56, op := Go.Op.load 3 (Go.Operand.tmp 55), type := 3, pos := "l8_program.go:101", after := #[{ on := 9, ground := Go.Ground.data }, { on := 2, ground := Go.Ground.guard }], guard := some (2, true) }) (v := ?vg29) [[15, 10]] rfl (by kernel_rfl) (fun _ _ _ h => h) hHeld (Or.inl ⟨by rfl, ?yg29⟩) ?_
      case yg29 => (intro wS hSw; (try dsimp only at hSw); go_simp <;> with_reducible rfl)
      try simp only [Act.put, List.setIfInBounds_toArray, List.set_cons_zero, List.set_cons_succ]
      refine wpG_pure (i := 11) (oi := { dst := some 57, op := Go.Op.fieldAddr 125 (Go.Operand.tmp 13) 3, type := 0, pos := "l8_program.go:101", after := #[{ on := 2, ground := Go.Ground.guard }], guard := some (2, true) }) (v := ?vg30) rfl (by kernel_rfl) (fun _ _ _ h => h) (Or.inr hHeld) (Or.inl ⟨by rfl, ?yg30⟩) ?_
      case yg30 => (intro wS _; go_simp <;> with_reducible rfl)
      try simp only [Act.put, List.setIfInBounds_toArray, List.set_cons_zero, List.set_cons_succ]
      refine wpG_load (i := 12) (oi := { dst := some 58, op := Go.Op.load 3 (Go.Operand.tmp 57), type := 3, pos := "l8_program.go:101", after := #[{ on := 11, ground := Go.Ground.data }, { on := 2, ground := Go.Ground.guard }], guard := some (2, true) }) (v := ?vg31) [[15, 12]] rfl (by kernel_rfl) (fun _ _ _ h => h) hHeld (Or.inl ⟨by rfl, ?yg31⟩) ?_
      case yg31 => (intro wS hSw; (try dsimp only at hSw); go_simp <;> with_reducible rfl)
      try simp only [Act.put, List.setIfInBounds_toArray, List.set_cons_zero, List.set_cons_succ]
      refine wpG_pure (i := 13) (oi := { dst := some 59, op := Go.Op.fieldAddr 125 (Go.Operand.tmp 13) 4, type := 0, pos := "l8_program.go:101", after := #[{ on := 2, ground := Go.Ground.guard }], guard := some (2, true) }) (v := ?vg32) rfl (by kernel_rfl) (fun _ _ _ h => h) (Or.inr hHeld) (Or.inl ⟨by rfl, ?yg32⟩) ?_
      case yg32 => (intro wS _; go_simp <;> with_reducible rfl)
      try simp only [Act.put, List.setIfInBounds_toArray, List.set_cons_zero, List.set_cons_succ]
      refine wpG_load (i := 14) (oi := { dst := some 60, op := Go.Op.load 9 (Go.Operand.tmp 59), type := 9, pos := "l8_program.go:101", after := #[{ on := 13, ground := Go.Ground.data }, { on := 2, ground := Go.Ground.guard }], guard := some (2, true) }) (v := ?vg33) [[15, 14]] rfl (by kernel_rfl) (fun _ _ _ h => h) hHeld (Or.inl ⟨by rfl, ?yg33⟩) ?_
      case yg33 => (intro wS hSw; (try dsimp only at hSw); go_simp <;> with_reducible rfl)
      try simp only [Act.put, List.setIfInBounds_toArray, List.set_cons_zero, List.set_cons_succ]
      refine wpG_one (i := 15) (o := { dst := some 61, op := Go.Op.call { callee := Go.Callee.value (Go.Operand.func 100), args := #[Go.Operand.tmp 54, Go.Operand.tmp 56, Go.Operand.tmp 58, Go.Operand.tmp 60], argTypes := #[57, 3, 3, 9] }, type := 4, pos := "l8_program.go:101", after := #[{ on := 8, ground := Go.Ground.data }, { on := 10, ground := Go.Ground.data }, { on := 12, ground := Go.Ground.data }, { on := 14, ground := Go.Ground.data }, { on := 2, ground := Go.Ground.chain }, { on := 2, ground := Go.Ground.guard }], guard := some (2, true) }) rfl (by kernel_rfl) (fun K hK => ?_)
      go_simp
      refine (HFI.out _).mono ?_
      rintro e w6 ⟨rfl, hb⟩
      have HB6 := Lib.hid (rstep (below_drew HBY.out) hb); clear hb
      refine hK.out _ _ (Or.inl (by kernel_rfl)) (fun _ => ?_)
      clear hK K
      try simp only [Act.put, List.setIfInBounds_toArray, List.set_cons_zero, List.set_cons_succ]
      refine wpG_pure (i := 16) (oi := { dst := some 62, op := Go.Op.pick (Go.Operand.tmp 48) (Go.Operand.tmp 61) (Go.Operand.const (Go.Value.bool false)), type := 4, pos := "l8_program.go:101", after := #[{ on := 2, ground := Go.Ground.data }, { on := 15, ground := Go.Ground.data }], guard := none }) (v := ?vg35) rfl (by kernel_rfl) (fun _ _ _ h => h) (Or.inl (by kernel_rfl)) (Or.inl ⟨by rfl, ?yg35⟩) ?_
      case yg35 => (intro wS _; go_simp <;> with_reducible rfl)
      try simp only [Act.put, List.setIfInBounds_toArray, List.set_cons_zero, List.set_cons_succ]
      refine wpG_pure (i := 17) (oi := { dst := some 9, op := Go.Op.assign (Go.Operand.tmp 62), type := 4, pos := "l8_program.go:101", after := #[{ on := 16, ground := Go.Ground.data }, { on := 15, ground := Go.Ground.chain }, { on := 0, ground := Go.Ground.phase }, { on := 1, ground := Go.Ground.phase }, { on := 2, ground := Go.Ground.phase }, { on := 3, ground := Go.Ground.phase }, { on := 4, ground := Go.Ground.phase }, { on := 5, ground := Go.Ground.phase }, { on := 6, ground := Go.Ground.phase }, { on := 7, ground := Go.Ground.phase }, { on := 8, ground := Go.Ground.phase }, { on := 9, ground := Go.Ground.phase }, { on := 10, ground := Go.Ground.phase }, { on := 11, ground := Go.Ground.phase }, { on := 12, ground := Go.Ground.phase }, { on := 13, ground := Go.Ground.phase }, { on := 14, ground := Go.Ground.phase }, { on := 15, ground := Go.Ground.phase }, { on := 16, ground := Go.Ground.phase }], guard := none }) (v := ?vg36) rfl (by kernel_rfl) (fun _ _ _ h => h) (Or.inl (by kernel_rfl)) (Or.inl ⟨by rfl, ?yg36⟩) ?_
      case yg36 => (intro wS _; go_simp <;> with_reducible rfl)
      try simp only [Act.put, List.setIfInBounds_toArray, List.set_cons_zero, List.set_cons_succ]
      refine wpG_done (by kernel_rfl) ?_
      skip
      go_wp2_with fail
      go_roundw
      case rel => exact ⟨k + 1, t + 1, rr, (j : Int), rfl, rfl, by go_num, by go_num, by omega, by omega, hpl, HRN, HB6⟩
      case measure => (simp [intOf]; try omega)
    · have hrun := hrc.2 (show ¬ (3 : Int) = 5 by decide)
      have e : nxt ⟨3, kd, no, nm, tx, ds⟩ fs k flag pl = ((if flag = (nm == 1) then ds.toNat else k + 1), flag, pl) := rfl
      rw [e] at hrun
      obtain ⟨D, rfl⟩ : ∃ D : Nat, ds = (D : Int) := ⟨ds.toNat, by omega⟩
      rw [Int.toNat_natCast] at hrun
      have hD1 : k < D := by omega
      have hD2 : D < n := by omega
      have hDw : IntKind.i64.wrap ((D : Int) - 1) = (D : Int) - 1 := IntWalk.i64_in _ (by omega)
      clear hrc e h3
      have HRN := Lib.hid hrun
      clear hrun
      rcases h2 with rfl | rfl
      · cases flag with
        | false =>
          go_wp2_with fail
          go_roundw
          case rel => exact ⟨D, t + 1, false, pl, rfl, rfl, by go_num, by first | go_num | (congr 1; omega), by omega, by omega, hpl, HRN, HBY⟩
          case measure => (simp [intOf]; try omega)
        | true =>
          go_wp2_with fail
          go_roundw
          case rel => exact ⟨k + 1, t + 1, true, pl, rfl, rfl, by go_num, by go_num, by omega, by omega, hpl, HRN, HBY⟩
          case measure => (simp [intOf]; try omega)
      · cases flag with
        | true =>
          go_wp2_with fail
          go_roundw
          case rel => exact ⟨D, t + 1, true, pl, rfl, rfl, by go_num, by first | go_num | (congr 1; omega), by omega, by omega, hpl, HRN, HBY⟩
          case measure => (simp [intOf]; try omega)
        | false =>
          go_wp2_with fail
          go_roundw
          case rel => exact ⟨k + 1, t + 1, false, pl, rfl, rfl, by go_num, by go_num, by omega, by omega, hpl, HRN, HBY⟩
          case measure => (simp [intOf]; try omega)
    · have hrun := Lib.hid (hrc.2 (show ¬ (4 : Int) = 5 by decide))
      clear hrc
      go_wp2_with fail
      go_roundw
      case rel => exact ⟨k + 1, t + 1, !flag, pl, rfl, rfl, by go_num, by go_num, by omega, by omega, hpl, hrun, HBY⟩
      case measure => (simp [intOf]; try omega)
    · have hR := hrc.1 rfl
      subst hR
      clear hrc
      have HBQ := Lib.hid (rstep HB3.out HBY.out)
      go_wp2_with fail
      go_ret3
      exact ⟨t + 1, by go_num, by omega, HBQ.out⟩
end Go.Proofs.Ytlmgckijbamgpaa
