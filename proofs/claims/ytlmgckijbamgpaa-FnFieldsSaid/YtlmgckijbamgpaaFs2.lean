/- The bytes of a field put behind others: the program's walk. -/
import Derived.Test.YtlmgckijbamgpaaFs1
import Derived.Lib.AppendStr
namespace Go.Proofs.Ytlmgckijbamgpaa
set_option linter.unusedVariables false
set_option linter.unusedSimpArgs false
open Go.ChangeShapes Go.WideShapes Go.ChangeAt Go.RowKit
open Go.Lib
set_option maxRecDepth 100000

/-- a row grows: nothing else that lay there turns, and where the row lies now it lay before, or the block is new -/
def Grw (v : Value) (w : World) (v' : Value) (w' : World) : Prop := Wrote (fun k => v.ownBlock = some k) w w' ∧ ∀ k, v'.ownBlock = some k → (v.ownBlock = some k ∨ w.heap.size ≤ k)
theorem Grw.refl (v : Value) (w : World) : Grw v w v w := ⟨Wrote.refl _ _, fun _ h => .inl h⟩
theorem Grw.trans {v v1 v2 : Value} {a b c : World} (h : Grw v a v1 b) (k : Grw v1 b v2 c) : Grw v a v2 c := by
  refine ⟨⟨k.1.os.trans h.1.os, k.1.tape.trans h.1.tape, k.1.output.trans h.1.output, Nat.le_trans h.1.size k.1.size, fun i hi hs => ?_⟩, fun i hi => ?_⟩
  · refine (k.1.block i (Nat.lt_of_lt_of_le hi h.1.size) fun e => ?_).trans (h.1.block i hi hs)
    rcases h.2 i e with e | e
    · exact hs e
    · omega
  · have := h.1.size
    rcases k.2 i hi with e | e
    · exact h.2 i e
    · exact .inr (by omega)
theorem Grw.alloc {v v1 : Value} {a b : World} (h : Grw v a v1 b) (o : Obj) : Grw v a v1 (b.alloc o) :=
  h.trans ⟨Wrote.of_below ((Below.refl _ _).alloc (Nat.le_refl _) o), fun _ e => .inl e⟩
theorem Grw.grown {v v1 v2 : Value} {a b c : World} {g : Nat} (h : Grw v a v1 b) (hg : b.grownBy c v1.ownBlock) (hv : v2.ownBlock = some g) (hat : v1.ownBlock = some g ∨ b.heap.size ≤ g) : Grw v a v2 c :=
  h.trans ⟨Wrote.of_grown hg, fun k e => by
    rw [hv] at e
    simp only [Option.some.injEq] at e
    subst e
    exact hat⟩
theorem Grw.drew {v v1 : Value} {a b : World} (h : Grw v a v1 b) : Grw v a v1 b.drew := ⟨⟨h.1.os, h.1.tape, h.1.output, h.1.size, h.1.block⟩, h.2⟩
set_option maxHeartbeats 2000000 in
theorem impl_varint2 (base n : Nat) (v : Value) (xs : List UInt8) (w : World) (ho : w.ownsRow base 5 1 v xs.length (byts xs)) (hb : base ≤ w.heap.size) (hn : n < 128 ^ 6) (hx : xs.length ≤ 1048576) :
    Calls Try.prog 67 #[v, .int .i64 (n : Int)] w fun e w' => ∃ v', e = .returned v' ∧ w'.ownsRow base 5 1 v' (xs ++ vb n).length (byts (xs ++ vb n)) ∧ Below base w w' ∧ Grw v w v' w' := by
  obtain ⟨i0, hJ, hz0, hz1, hz2⟩ := info_parts Try.infoU8V
  have HO := Lib.hid ho
  clear ho
  go_enter Try.func67, Try.ntmps67
  go_wp2_with fail
  go_loopw [0, 1] (fun sv nv wr => ∃ (f m : Nat) (out : List UInt8), m < 128 ^ (f + 1) ∧ m ≤ n ∧ out.length + f ≤ 5 + xs.length ∧ nv = .int .i64 (m : Int) ∧ Hid (wr.ownsRow base 5 1 sv out.length (byts out)) ∧ Hid (out ++ vbF f m = xs ++ vb n) ∧ Hid (Below base w wr) ∧ Hid (Grw v w sv wr)) (fun _ nv _ => (intOf nv).toNat)
  case atStart => exact ⟨5, n, xs, hn, Nat.le_refl _, by omega, rfl, HO, Lib.hid rfl, Lib.hid (Below.refl _ _), Lib.hid (Grw.refl _ _)⟩
  case round =>
    obtain ⟨f, m, out, hm, hmn, hf, rfl, HR, HE, HB, HG⟩ := hrel
    have hbs := HB.out.size
    have hbs' : base ≤ wr.heap.size := by omega
    have hm7 : m < 4398046511104 := by have : n < 4398046511104 := by simpa using hn
                                       omega
    clear hn
    by_cases hc : 128 ≤ m
    · match f, hm with
      | 0, hm => simp at hm; omega
      | f + 1, hm =>
      have HEN : Hid ((out ++ [UInt8.ofNat (m % 128 + 128)]) ++ vbF f (m / 128) = xs ++ vb n) := Lib.hid (by
        rw [← HE.out, vbF, if_pos hc, List.append_assoc]; rfl)
      have hv : bits .or .u8 ((m : Int) % 256) 128 = ((m % 128 + 128 : Nat) : Int) := by
        have := or128w (m := m % 256) (by omega)
        rw [show (m : Int) % 256 = ((m % 256 : Nat) : Int) by omega, this]; congr 2; omega
      have HSN := Lib.hid (byts_snoc out (b := m % 128 + 128) (by omega))
      go_wp2_with (at_builtin; refine wpList_append_lies _ rfl _ _ 38 rfl base 5 i0 (.int .u8 0) 1 1 Try.underlying38 hJ hz0 hz1 hz2 rfl (by decide) _ out.length _ rfl (HR.out.alloc _) _ 1 1 [.int .u8 _] rfl rfl (news_one _ _ _) (by simp [Value.oneCell']) (by decide) (by unfold maxLen; omega) (by omega) (by simp; omega) _ rfl ?_)
      intro g cp w4 hown hgrow hat hlt
      have HO4 : Hid (w4.ownsRow base 5 1 (.slice (some ⟨g, 0, none⟩) (out.length + 1) cp) (out.length + 1) (byts (out ++ [UInt8.ofNat (m % 128 + 128)]))) := Lib.hid (by rw [HSN.out]; exact hown)
      have HB4 := Lib.hid (Below.grown (HB.out.alloc hbs' (.cells #[.int .u8 _] 5)) hgrow (by simp; omega) (fun q hq => (HR.out.lt q hq).1))
      have HG4 := Lib.hid ((HG.out.alloc _).grown hgrow (v2 := .slice (some ⟨g, 0, none⟩) (out.length + 1) cp) (g := g) rfl (by rcases hat with e | e; exact .inl e; exact .inr (by rw [e]; simp)))
      clear hown hgrow hat
      go_wp2_with fail
      go_roundw
      case rel => exact ⟨f, m / 128, out ++ [UInt8.ofNat (m % 128 + 128)], by rw [Nat.pow_succ] at hm; omega, by omega, by simp; omega, by congr 1, by rw [List.length_append]; exact HO4, HEN, HB4, HG4⟩
      case measure => (simp [intOf]; try omega)
    · have HEN : Hid (out ++ [UInt8.ofNat m] = xs ++ vb n) := Lib.hid (by
        rw [← HE.out]
        cases f with
        | zero => rfl
        | succ f => rw [vbF, if_neg hc])
      have HSN := Lib.hid (byts_snoc out (b := m) (by omega))
      go_wp2_with (at_builtin; refine wpList_append_lies _ rfl _ _ 38 rfl base 5 i0 (.int .u8 0) 1 1 Try.underlying38 hJ hz0 hz1 hz2 rfl (by decide) _ out.length _ rfl (HR.out.alloc _) _ 1 1 [.int .u8 _] rfl rfl (news_one _ _ _) (by simp [Value.oneCell']) (by decide) (by unfold maxLen; omega) (by omega) (by simp; omega) _ rfl ?_)
      intro g cp w4 hown hgrow hat hlt
      have HO4 : Hid (w4.ownsRow base 5 1 (.slice (some ⟨g, 0, none⟩) (out.length + 1) cp) (out.length + 1) (byts (out ++ [UInt8.ofNat (m)]))) := Lib.hid (by rw [HSN.out]; exact hown)
      have HB4 := Lib.hid (Below.grown (HB.out.alloc hbs' (.cells #[.int .u8 _] 5)) hgrow (by simp; omega) (fun q hq => (HR.out.lt q hq).1))
      have HG4 := Lib.hid ((HG.out.alloc _).grown hgrow (v2 := .slice (some ⟨g, 0, none⟩) (out.length + 1) cp) (g := g) rfl (by rcases hat with e | e; exact .inl e; exact .inr (by rw [e]; simp)))
      clear hown hgrow hat
      go_wp2_with fail
      go_ret
      refine ⟨_, rfl, ?_, HB4.out, HG4.out⟩
      rw [← HEN.out, List.length_append]; exact HO4.out
theorem vintI (base : Nat) (n : Int) (v : Value) (xs : List UInt8) (w : World) (ho : w.ownsRow base 5 1 v xs.length (byts xs)) (hb : base ≤ w.heap.size) (h0 : 0 ≤ n) (hn : n < 4398046511104) (hx : xs.length ≤ 1048576) :
    Calls Try.prog 67 #[v, .int .i64 n] w fun e w' => ∃ v', e = .returned v' ∧ w'.ownsRow base 5 1 v' (xs ++ vb n.toNat).length (byts (xs ++ vb n.toNat)) ∧ Below base w w' ∧ Grw v w v' w' := by
  have := impl_varint2 base n.toNat v xs w ho hb (by show n.toNat < 4398046511104; omega) hx
  rwa [Int.toNat_of_nonneg h0] at this
theorem str_byts (s : ByteArray) : strCells s = byts s.data.toList := rfl
theorem step_append_str {P : Program} {ops : Array Oper} {o : Oper} {a : Act} {w : World} {K : Act → World → Prop} {Q : Exit → Act → World → Prop} {E : Prop} (hgd : o.guard = none) (sl x : Operand) (t u : TypeId)
    (ho : o.op = .call { callee := .builtin .append, args := #[sl, x], argTypes := #[t, u] })
    (base : Nat) (e : TypeId) (i : TypeInfo) (ht : P.underlying t = some (.slice e)) (hu : P.underlying u = some .string) (hi : P.info? e = some i) (hz : i.zero = some (.int .u8 0))
    (hsize : i.size = 1) (hby : i.bytes = 1)
    (v : Value) (n : Nat) (xs : List Value) (hs : a.eval sl = v) (hown : w.ownsRow base e 1 v n xs) (s : ByteArray) (hx : a.eval x = .string s)
    (h63 : n + s.size ≤ maxLen) (hbytes : n + s.size ≤ 140737488355328) (hbase : base ≤ w.heap.size)
    (h : ∀ v' w', w'.ownsRow base e 1 v' (n + s.size) (xs ++ strCells s) → w.grownBy w' v.ownBlock → K (a.put o.dst v') w') :
    if Region.wanted o (yielded ops a.tmps) = true then Oper.wp P o a w K Q else E := by
  have hw : Region.wanted o (yielded ops a.tmps) = true := by simp [Region.wanted, hgd]
  rw [if_pos hw]
  obtain ⟨v', w', hr, h2, h3, h4⟩ := run_append_own_string (P := P) w base t u o.type e i ht hu hi hz hsize hby v n xs hown s h63 hbytes hbase
  unfold Oper.wp execOp
  simp only [ho, resolve, invoke, builtin, Sem.run_bind, Sem.run_pure, Result.andThen_ok, List.map_toArray, List.map_cons, List.map_nil, hs, hx, hr]
  exact h v' w' h2 h3
end Go.Proofs.Ytlmgckijbamgpaa
