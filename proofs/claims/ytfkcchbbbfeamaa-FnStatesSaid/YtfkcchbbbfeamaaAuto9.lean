/- The contract of the reference's BuildStates. -/
import Derived.Test.YtfkcchbbbfeamaaAuto8
namespace Go.Proofs.Ytfkcchbbbfeamaa
set_option linter.unusedVariables false
open Go.ChangeShapes Go.WideShapes Go.ChangeAt Go.RowKit
set_option maxRecDepth 100000

theorem wpList_append_lies {P : Program} {w : World} {ops : Array Oper} {rest : List Oper} {o : Oper} {a : Act} {Q : Exit → Act → World → Prop} (hgd : o.guard = none) (s x : Operand) (t : TypeId)
    (ho : o.op = .call { callee := .builtin .append, args := #[s, x], argTypes := #[t, t] })
    (base : Nat) (e : TypeId) (i : TypeInfo) (z : Value) (size bytes : Nat) (ht : P.underlying t = some (.slice e)) (hi : P.info? e = some i) (hz : i.zero = some z)
    (hsize : i.size = size) (hby : i.bytes = bytes) (hzs : z.cells.size = size) (hsz : 0 < size)
    (v : Value) (n : Nat) (xs : List Value) (hs : a.eval s = v) (hown : w.ownsRow base e size v n xs)
    (ad : Addr) (m c : Nat) (news : List Value) (hx : a.eval x = .slice (some ad) m c) (hl : news.length = m * size) (hnews : ∀ j u, news[j]? = some u → w.cell? (ad.add j) = some u) (h1 : ∀ u ∈ news, u.oneCell' = true)
    (hm : 0 < m) (h63 : n + m ≤ maxLen) (hbytes : (n + m) * bytes ≤ 140737488355328) (hbase : base ≤ w.heap.size) (H : Nat) (hH : w.heap.size = H)
    (h : ∀ g cap w', w'.ownsRow base e size (.slice (some ⟨g, 0, none⟩) (n + m) cap) (n + m) (xs ++ news) → w.grownBy w' v.ownBlock → (v.ownBlock = some g ∨ g = H) → g < w'.heap.size → wpList P ops Q rest (a.put o.dst (.slice (some ⟨g, 0, none⟩) (n + m) cap)) w') : wpList P ops Q (o :: rest) a w :=
  wpList_plain hgd fun _ hK => wp_append_lies w s x t ho base e i z size bytes ht hi hz hsize hby hzs hsz v n xs hs hown ad m c news hx hl hnews h1 hm h63 hbytes hbase H hH fun g cap w' a1 a2 a3 a4 => hK _ _ (h g cap w' a1 a2 a3 a4)
set_option maxHeartbeats 4000000 in
theorem spec_BuildStates (w : World) (cs0 : List Value) (a0 : List ByteArray) (h0 : kStringS.rd w.heap.size w cs0 a0) (_ht : kStringS.wt a0 ≤ 1048576) :
    Calls Try.prog 32 #[one cs0] w (Made kStateS (fun cs => .tuple #[one cs, .bool (R_BuildStates a0).2]) (R_BuildStates a0).1 w) := by
  obtain ⟨a, cap, rfl, hrow, hc1, hc2, hsz⟩ := strS_row h0
  show Calls Try.prog 32 #[.slice a a0.length cap] w _
  obtain ⟨j0, hj, hj0, hj1, hj2⟩ := info_parts Try.infoState
  obtain ⟨q0, hq, hq0, hq1, hq2⟩ := info_parts Try.infoIntE
  have HW := Lib.hid (spec_words a cap a0 w hrow (by omega) hsz)
  have HR := Lib.hid hrow; have HSZ := Lib.hid hsz
  clear h0 hrow hsz _ht
  unfold Made
  cases hb : wordsB a0 with
  | false =>
    rw [BS_no hb]
    rw [hb] at HW
    clear hb
    go_enter Try.func32, Try.ntmps32
    go_wp2_with fail
    refine HW.out.mono ?_
    rintro e w' ⟨rfl, rfl⟩
    go_wp2_with fail
    go_ret2
    exact ⟨[.slice none 0 0], [], rfl, ⟨_, [], [], rfl, World.ownsRow_nil _ _ _ _, trivial, rfl, List.nodup_nil⟩, List.nodup_nil, by simp, Below.refl _ _⟩
  | true =>
    rw [BS_yes hb]
    rw [hb] at HW
    have HT := Lib.hid (spec_texts a cap a0 w HR.out hb)
    have htl := texts_len hb
    have htp := texts_pos a0
    have hwl := (wordsB_of hb).1
    have HSS := Lib.hid (fun k (h : k < (textsR a0).length) => starts_size hb (tx_mem h))
    have HFU : Hid (((textsR a0).take (textsR a0).length).map (stR a0) = (textsR a0).map (stR a0)) := Lib.hid (by rw [List.take_length])
    clear hb
    go_enter Try.func32, Try.ntmps32
    go_wp2_with fail
    refine HW.out.mono ?_
    rintro e w' ⟨rfl, rfl⟩
    go_wp2_with fail
    refine HT.out.mono ?_
    rintro e w1 ⟨v, rfl, ho, hbl⟩
    obtain ⟨tg, tc, rfl, _⟩ := ho.form (by omega)
    have HB := Lib.hid hbl
    have HP : Hid (Sp w.heap.size w1 (.slice none 0 0) (.slice (some ⟨tg, 0, none⟩) (textsR a0).length tc) (textsR a0) [] [] []) := Lib.hid ⟨World.ownsRow_nil _ _ _ _, trivial, by simp, by simp, ho⟩
    clear ho hbl HT
    go_wp2_with fail
    go_loopw [5, 19] (fun out i wr => ∃ (k : Nat) (vss : List (List Value)) (fps : List (List Nat)), k ≤ (textsR a0).length ∧ i = .int .i64 (k : Int) ∧ Hid (Sp w.heap.size wr out (.slice (some ⟨tg, 0, none⟩) (textsR a0).length tc) (textsR a0) vss fps (((textsR a0).take k).map (stR a0))) ∧ Hid (Below w.heap.size w wr)) (fun _ i _ => (textsR a0).length - (intOf i).toNat)
    case atStart => exact ⟨0, [], [], Nat.zero_le _, rfl, HP, HB⟩
    case round =>
      clear HP HB
      obtain ⟨w2, rfl⟩ : ∃ z : World, z = wr := ⟨_, rfl⟩
      obtain ⟨k, vss, fps, hk, rfl, HP, HB⟩ := hrel
      obtain ⟨oq, oc, hv⟩ := form_of_own HP.out.own
      obtain ⟨om, hom⟩ : ∃ om, (((textsR a0).take k).map (stR a0)).length = om := ⟨_, rfl⟩
      rw [hom] at hv
      subst hv
      by_cases hlk : k < (textsR a0).length
      case neg =>
        obtain rfl : k = (textsR a0).length := by omega
        go_wp2_with fail
        go_ret2
        have hp := HP.out
        rw [HFU.out] at hp
        have hnf : ∀ g, (Value.slice oq om oc).ownBlock = some g → g ∉ fps.flatten := fun g hg hm => by
          obtain ⟨cur, hcc⟩ := fp_at hp.els g hm
          obtain ⟨cur2, hcc2⟩ := own_at hp.own hg
          rw [hcc] at hcc2; simp at hcc2
        have hnd : ((Value.slice oq om oc).ownBlock.toList ++ fps.flatten).Nodup := by
          rw [List.nodup_append]
          refine ⟨by cases (Value.slice oq om oc).ownBlock <;> simp, hp.nod, fun x hx y hy e => ?_⟩
          subst e
          exact hnf x (by simpa using hx) hy
        refine ⟨[.slice oq om oc], _, rfl, ⟨_, vss, fps, rfl, own_mono hp.own (Nat.zero_le _), hp.els, rfl, hnd⟩, hnd, fun b hb => ?_, HB.out⟩
        rcases List.mem_append.1 hb with hb | hb
        · exact (hp.own.lt b (by simpa using hb)).1
        · exact hp.fpb b hb
      have ct := HP.out.txt.cellAt k (by omega)
      rw [strs_at _ k hlk, show (textsR a0).getD k ByteArray.empty = tx a0 k from rfl] at ct
      have hts := HSS.out k hlk
      have hz2 := HB.out.size
      have HX := Lib.hid (Sx.begin HP.out hz2)
      have HB2 := Lib.hid (HB.out.alloc hz2 (.cells #[.int .i64 (-1), .int .u8 0, .int .i64 0, .slice none 0 0] 64))
      have htg := (HP.out.txt.lt tg rfl).2
      by_cases hk0 : 0 < (tx a0 k).size
      · obtain ⟨m, hm⟩ : ∃ m, m + 1 = (tx a0 k).size := ⟨(tx a0 k).size - 1, by omega⟩
        have hml : m < (tx a0 k).size := by omega
        have hwn : IntKind.i64.wrap (((tx a0 k).size : Int) - 1) = (m : Int) := by rw [IntWalk.i64_in _ (by omega)]; omega
        have hsn : ((tx a0 k).size : Int) - 1 = (m : Int) := by omega
        have hby : ((tx a0 k)[m]'hml).toNat = (byteR (tx a0 k)).toNat := by
          rw [atS_eq _ m hml]
          unfold byteR
          rw [if_neg (by omega), show (tx a0 k).size - 1 = m by omega]
        have eup : atR (textsR a0) ((tx a0 k).extract 0 m) = upR a0 (tx a0 k) := by
          unfold upR; rw [if_neg (by omega), show (tx a0 k).size - 1 = m by omega]
        have efl : atR (textsR a0) (longR a0 ((tx a0 k).extract 1 (tx a0 k).size)) = failR a0 (tx a0 k) := by
          unfold failR; rw [if_neg (by omega)]
        have h1z : (1 : Int) ≤ ((tx a0 k).size : Int) := by omega
        have hmz : (m : Int) ≤ ((tx a0 k).size : Int) := by omega
        have HEU := Lib.hid eup; have HEF := Lib.hid efl
        clear eup efl
        obtain ⟨c0, c1, c2, c3, cf⟩ := HX.out.cells
        go_wp2_with fail
        generalize w2.alloc (.cells #[.int .i64 (-1), .int .u8 0, .int .i64 0, .slice none 0 0] 64) = w3 at *
        generalize w2.heap.size = X at *
        have HAT1 := Lib.hid (spec_at (some ⟨tg, 0, none⟩) tc (textsR a0) ((tx a0 k).extract 0 m) w3 (own_rw HX.out.sp.txt) (by omega))
        rw [HEU.out] at HAT1
        refine HAT1.out.mono ?_
        rintro e w' ⟨rfl, rfl⟩
        have HX5 := Lib.hid ((HX.out.putUp (upR a0 (tx a0 k))).putByte (byteR (tx a0 k)))
        have HB5 := Lib.hid ((HB2.out.setCell (p := ⟨X, 0, none⟩) HX.out.lo (.int .i64 (upR a0 (tx a0 k)))).setCell (p := ⟨X, 1, none⟩) HX.out.lo (.int .u8 ((byteR (tx a0 k)).toNat : Int)))
        clear HAT1
        go_wp2_with fail
        generalize (w3.setCell ⟨X, 0, none⟩ (.int .i64 (upR a0 (tx a0 k)))).setCell ⟨X, 1, none⟩ (.int .u8 ((byteR (tx a0 k)).toNat : Int)) = w4 at *
        clear c0 c1 c2 c3 cf HX HB2
        obtain ⟨c0, c1, c2, c3, cf⟩ := HX5.out.cells
        refine (spec_longest a cap a0 ((tx a0 k).extract 1 (tx a0 k).size) w4 ((HR.out.below HB5.out).rw HB5.out.size) (by omega) (fun s hs => by have := (HSZ.out s hs); omega) (by rw [ex_size _ _ _ (Nat.le_refl _)]; omega)).mono ?_
        rintro e w' ⟨rfl, rfl⟩
        go_wp2_with fail
        have HAT2 := Lib.hid (spec_at (some ⟨tg, 0, none⟩) tc (textsR a0) (longR a0 ((tx a0 k).extract 1 (tx a0 k).size)) w4 (own_rw HX5.out.sp.txt) (by omega))
        rw [HEF.out] at HAT2
        refine HAT2.out.mono ?_
        rintro e w' ⟨rfl, rfl⟩
        have HX6 := Lib.hid (HX5.out.putFail (failR a0 (tx a0 k)))
        have HBX := Lib.hid (HB5.out.setCell (p := ⟨X, 2, none⟩) HX5.out.lo (.int .i64 (failR a0 (tx a0 k))))
        clear HAT2
        go_wp2_with fail
        generalize w4.setCell ⟨X, 2, none⟩ (.int .i64 (failR a0 (tx a0 k))) = w6 at *
        clear c0 c1 c2 c3 cf HX5 HB5 ct
        go_loopw [48] (fun i wr => ∃ (n : Nat) (wv : Value), n ≤ a0.length ∧ i = .int .i64 (n : Int) ∧ Hid (Sx w.heap.size wr (X) (.slice oq om oc) (.slice (some ⟨tg, 0, none⟩) (textsR a0).length tc) wv (textsR a0) vss fps (((textsR a0).take k).map (stR a0)) (upR a0 (tx a0 k), byteR (tx a0 k), failR a0 (tx a0 k), endsL a0 (tx a0 k) n)) ∧ Hid (Below w.heap.size w wr)) (fun i _ => a0.length - (intOf i).toNat)
        case atStart => exact ⟨0, _, Nat.zero_le _, rfl, HX6, HBX⟩
        case round =>
          clear HBX
          obtain ⟨w5, rfl⟩ : ∃ z : World, z = wr := ⟨_, rfl⟩
          obtain ⟨n, wv, hn, rfl, HX, HB⟩ := hrel
          obtain ⟨wq, wc, hwv⟩ := form_of_own HX.out.wrd
          subst hwv
          obtain ⟨c0, c1, c2, c3, cf⟩ := HX.out.cells
          have hsz5 := HB.out.size
          by_cases hln : n < a0.length
          case neg =>
            obtain rfl : n = a0.length := by omega
            have hup := up_wf (t := tx a0 k) htl
            have hfl := fail_wf (t := tx a0 k) htl
            have HEW := Lib.hid (ends_wf (ws := a0) (t := tx a0 k) (n := a0.length) (by omega))
            have HNX := Lib.hid (states_next hlk)
            have HUP := Lib.hid hup; have HFL := Lib.hid hfl
            have hst : stR a0 (tx a0 k) = (upR a0 (tx a0 k), byteR (tx a0 k), failR a0 (tx a0 k), endsL a0 (tx a0 k) a0.length) := rfl
            have HST := Lib.hid hst
            clear hup hfl hst
            generalize upR a0 (tx a0 k) = xu at *
            generalize byteR (tx a0 k) = xb at *
            generalize failR a0 (tx a0 k) = xf at *
            generalize endsL a0 (tx a0 k) a0.length = xe at *
            have HX6 := Lib.hid (HX.out.later ((Below.refl _ _).alloc (Nat.le_refl _) (.cells #[.int .i64 xu, .int .u8 (xb.toNat : Int), .int .i64 xf, .slice wq xe.length wc] 64)))
            have HNW := Lib.hid (World.news_of_block (cs := #[Value.int .i64 xu, Value.int .u8 (xb.toNat : Int), Value.int .i64 xf, Value.slice wq xe.length wc]) (t := 64) (fr := (0, 0)) (heap_alloc_new w5 (.cells #[.int .i64 xu, .int .u8 (xb.toNat : Int), .int .i64 xf, .slice wq xe.length wc] 64)))
            go_wp2_with (at_builtin; refine wpList_append_own _ rfl _ _ 47 rfl w.heap.size 64 j0 (.agg #[.int .i64 0, .int .u8 0, .int .i64 0, .slice none 0 0]) 4 48 Try.underlying47 hj hj0 hj1 hj2 rfl (by decide) _ (((textsR a0).take k).map (stR a0)).length _ rfl HX6.out.sp.own ⟨w5.heap.size, 0, none⟩ 1 1 [.int .i64 xu, .int .u8 (xb.toNat : Int), .int .i64 xf, .slice wq xe.length wc] rfl rfl HNW.out (by simp [Value.oneCell']) (by rw [List.length_map, List.length_take]; unfold maxLen; omega) (by rw [List.length_map, List.length_take]; omega) (by simp; omega) ?_)
            intro v9 w9 hown hgrow _
            have HP9 := Lib.hid (HX6.out.done rfl rfl hgrow (by rw [List.length_map, List.length_take, Nat.min_eq_left (by omega)]; exact hown) HUP.out HFL.out HEW.out)
            have HB9 : Hid (Below w.heap.size w w9) := Lib.hid (Below.grown (HB.out.alloc hsz5 _) hgrow (by simp; omega) (fun j hj => (HX6.out.sp.own.lt j hj).1))
            rw [← HST.out, ← HNX.out] at HP9
            clear hown hgrow HX6 HX
            go_wp2_with fail
            go_roundw
            case rel => exact ⟨k + 1, _, _, by omega, by go_num, HP9, HB9⟩
            case measure => simp [intOf]; omega
          obtain ⟨b, off, rfl, hbl, hc⟩ := (HR.out.below HB.out).at (strs_ne hln)
          have hc1 := hc n _ (strs_at a0 n hln)
          have hs20 := (HSZ.out (a0.getD n ByteArray.empty) (by rw [List.getD, List.getElem?_eq_getElem hln]; exact List.getElem_mem hln))
          have HEN := Lib.hid (ends_next (ws := a0) (t := tx a0 k) (n := n))
          have HSF := Lib.hid (spec_ends (tx a0 k) (a0.getD n ByteArray.empty) w5 (by omega) (by omega))
          have hel := ends_len (ws := a0) (t := tx a0 k) (n := n)
          clear hc hbl
          generalize a0.getD n ByteArray.empty = v at *
          cases he : endsB (tx a0 k) v with
          | false =>
            rw [he] at HEN HSF
            have HEQ : Hid (endsL a0 (tx a0 k) (n + 1) = endsL a0 (tx a0 k) n) := Lib.hid (by rw [HEN.out]; simp)
            clear he
            go_wp2_with fail
            refine HSF.out.mono ?_
            rintro e w' ⟨rfl, rfl⟩
            go_wp2_with fail
            go_roundw
            case rel => exact ⟨n + 1, _, by omega, by go_num, by rw [HEQ.out]; exact HX, HB⟩
            case measure => simp [intOf]; omega
          | true =>
            rw [he] at HEN HSF
            have HEQ : Hid (endsL a0 (tx a0 k) (n + 1) = endsL a0 (tx a0 k) n ++ [(n : Int)]) := Lib.hid (by rw [HEN.out]; simp)
            clear he
            generalize endsL a0 (tx a0 k) n = ys at *
            have HX6 := Lib.hid (HX.out.later ((Below.refl _ _).alloc (Nat.le_refl _) (.cells #[.int .i64 (n : Int)] 3)))
            go_wp2_with fail
            refine HSF.out.mono ?_
            rintro e w' ⟨rfl, rfl⟩
            go_wp2_with (at_builtin; refine wpList_append_lies rfl _ _ 25 rfl w.heap.size 3 q0 (.int .i64 0) 1 8 Try.underlying25 hq hq0 hq1 hq2 rfl (by decide) _ ys.length (ints ys) rfl HX6.out.wrd ⟨w5.heap.size, 0, none⟩ 1 1 [.int .i64 (n : Int)] rfl rfl (news_one _ _ _) (by simp [Value.oneCell']) (by omega) (by unfold maxLen; omega) (by omega) (by simp; omega) (w5.heap.size + 1) (by simp) ?_)
            intro g9 c9 w9 hown9 hgrow hat _
            have kx := HX6.out.mid hgrow
            have cz : w9.cell? ⟨X, 3, none⟩ = some (.slice wq ys.length wc) := by simp [World.cell?, kx]
            have ez : w9.frozen? ⟨X, 3, none⟩ = false := by simp [World.frozen?, kx]
            have HX9 := Lib.hid (HX6.out.putWord (z := (n : Int)) hgrow (by simp only [ints, List.map_append, List.map_cons, List.map_nil]; exact hown9) (hat.imp id (fun h => by rw [h]; simp)))
            have HB9 : Hid (Below w.heap.size w (w9.setCell ⟨X, 3, none⟩ (.slice (some ⟨g9, 0, none⟩) (ys.length + 1) c9))) := Lib.hid (below_put (v := .slice wq ys.length wc) (HB.out.alloc hsz5 _) hgrow (by simp; omega) (fun j hj => (HX6.out.wrd.lt j hj).1) HX6.out.lo)
            clear hown9 hgrow hat kx HX HX6
            go_wp2_with fail
            go_roundw
            case rel => exact ⟨n + 1, _, by omega, by go_num, by rw [HEQ.out]; exact HX9, HB9⟩
            case measure => simp [intOf]; omega
      · have hx0 : Hid (Sx w.heap.size (w2.alloc (.cells #[.int .i64 (-1), .int .u8 0, .int .i64 0, .slice none 0 0] 64)) w2.heap.size (.slice oq om oc) (.slice (some ⟨tg, 0, none⟩) (textsR a0).length tc) (.slice none 0 0) (textsR a0) vss fps (((textsR a0).take k).map (stR a0)) (upR a0 (tx a0 k), byteR (tx a0 k), failR a0 (tx a0 k), endsL a0 (tx a0 k) 0)) := by
          have e1 : upR a0 (tx a0 k) = -1 := if_pos (by omega)
          have e2 : byteR (tx a0 k) = 0 := if_pos (by omega)
          have e3 : failR a0 (tx a0 k) = 0 := if_pos (by omega)
          rw [e1, e2, e3]; exact HX
        have hsz0 : (tx a0 k).size = 0 := by omega
        clear HX
        have HBX := HB2
        go_wp2_with fail
        generalize w2.alloc (.cells #[.int .i64 (-1), .int .u8 0, .int .i64 0, .slice none 0 0] 64) = w3 at *
        generalize w2.heap.size = X at *
        clear HB2 ct
        go_loopw [48] (fun i wr => ∃ (n : Nat) (wv : Value), n ≤ a0.length ∧ i = .int .i64 (n : Int) ∧ Hid (Sx w.heap.size wr (X) (.slice oq om oc) (.slice (some ⟨tg, 0, none⟩) (textsR a0).length tc) wv (textsR a0) vss fps (((textsR a0).take k).map (stR a0)) (upR a0 (tx a0 k), byteR (tx a0 k), failR a0 (tx a0 k), endsL a0 (tx a0 k) n)) ∧ Hid (Below w.heap.size w wr)) (fun i _ => a0.length - (intOf i).toNat)
        case atStart => exact ⟨0, _, Nat.zero_le _, rfl, hx0, HBX⟩
        case round =>
          clear HBX
          obtain ⟨w5, rfl⟩ : ∃ z : World, z = wr := ⟨_, rfl⟩
          obtain ⟨n, wv, hn, rfl, HX, HB⟩ := hrel
          obtain ⟨wq, wc, hwv⟩ := form_of_own HX.out.wrd
          subst hwv
          obtain ⟨c0, c1, c2, c3, cf⟩ := HX.out.cells
          have hsz5 := HB.out.size
          by_cases hln : n < a0.length
          case neg =>
            obtain rfl : n = a0.length := by omega
            have hup := up_wf (t := tx a0 k) htl
            have hfl := fail_wf (t := tx a0 k) htl
            have HEW := Lib.hid (ends_wf (ws := a0) (t := tx a0 k) (n := a0.length) (by omega))
            have HNX := Lib.hid (states_next hlk)
            have HUP := Lib.hid hup; have HFL := Lib.hid hfl
            have hst : stR a0 (tx a0 k) = (upR a0 (tx a0 k), byteR (tx a0 k), failR a0 (tx a0 k), endsL a0 (tx a0 k) a0.length) := rfl
            have HST := Lib.hid hst
            clear hup hfl hst
            generalize upR a0 (tx a0 k) = xu at *
            generalize byteR (tx a0 k) = xb at *
            generalize failR a0 (tx a0 k) = xf at *
            generalize endsL a0 (tx a0 k) a0.length = xe at *
            have HX6 := Lib.hid (HX.out.later ((Below.refl _ _).alloc (Nat.le_refl _) (.cells #[.int .i64 xu, .int .u8 (xb.toNat : Int), .int .i64 xf, .slice wq xe.length wc] 64)))
            have HNW := Lib.hid (World.news_of_block (cs := #[Value.int .i64 xu, Value.int .u8 (xb.toNat : Int), Value.int .i64 xf, Value.slice wq xe.length wc]) (t := 64) (fr := (0, 0)) (heap_alloc_new w5 (.cells #[.int .i64 xu, .int .u8 (xb.toNat : Int), .int .i64 xf, .slice wq xe.length wc] 64)))
            go_wp2_with (at_builtin; refine wpList_append_own _ rfl _ _ 47 rfl w.heap.size 64 j0 (.agg #[.int .i64 0, .int .u8 0, .int .i64 0, .slice none 0 0]) 4 48 Try.underlying47 hj hj0 hj1 hj2 rfl (by decide) _ (((textsR a0).take k).map (stR a0)).length _ rfl HX6.out.sp.own ⟨w5.heap.size, 0, none⟩ 1 1 [.int .i64 xu, .int .u8 (xb.toNat : Int), .int .i64 xf, .slice wq xe.length wc] rfl rfl HNW.out (by simp [Value.oneCell']) (by rw [List.length_map, List.length_take]; unfold maxLen; omega) (by rw [List.length_map, List.length_take]; omega) (by simp; omega) ?_)
            intro v9 w9 hown hgrow _
            have HP9 := Lib.hid (HX6.out.done rfl rfl hgrow (by rw [List.length_map, List.length_take, Nat.min_eq_left (by omega)]; exact hown) HUP.out HFL.out HEW.out)
            have HB9 : Hid (Below w.heap.size w w9) := Lib.hid (Below.grown (HB.out.alloc hsz5 _) hgrow (by simp; omega) (fun j hj => (HX6.out.sp.own.lt j hj).1))
            rw [← HST.out, ← HNX.out] at HP9
            clear hown hgrow HX6 HX
            go_wp2_with fail
            go_roundw
            case rel => exact ⟨k + 1, _, _, by omega, by go_num, HP9, HB9⟩
            case measure => simp [intOf]; omega
          obtain ⟨b, off, rfl, hbl, hc⟩ := (HR.out.below HB.out).at (strs_ne hln)
          have hc1 := hc n _ (strs_at a0 n hln)
          have hs20 := (HSZ.out (a0.getD n ByteArray.empty) (by rw [List.getD, List.getElem?_eq_getElem hln]; exact List.getElem_mem hln))
          have HEN := Lib.hid (ends_next (ws := a0) (t := tx a0 k) (n := n))
          have HSF := Lib.hid (spec_ends (tx a0 k) (a0.getD n ByteArray.empty) w5 (by omega) (by omega))
          have hel := ends_len (ws := a0) (t := tx a0 k) (n := n)
          clear hc hbl
          generalize a0.getD n ByteArray.empty = v at *
          cases he : endsB (tx a0 k) v with
          | false =>
            rw [he] at HEN HSF
            have HEQ : Hid (endsL a0 (tx a0 k) (n + 1) = endsL a0 (tx a0 k) n) := Lib.hid (by rw [HEN.out]; simp)
            clear he
            go_wp2_with fail
            refine HSF.out.mono ?_
            rintro e w' ⟨rfl, rfl⟩
            go_wp2_with fail
            go_roundw
            case rel => exact ⟨n + 1, _, by omega, by go_num, by rw [HEQ.out]; exact HX, HB⟩
            case measure => simp [intOf]; omega
          | true =>
            rw [he] at HEN HSF
            have HEQ : Hid (endsL a0 (tx a0 k) (n + 1) = endsL a0 (tx a0 k) n ++ [(n : Int)]) := Lib.hid (by rw [HEN.out]; simp)
            clear he
            generalize endsL a0 (tx a0 k) n = ys at *
            have HX6 := Lib.hid (HX.out.later ((Below.refl _ _).alloc (Nat.le_refl _) (.cells #[.int .i64 (n : Int)] 3)))
            go_wp2_with fail
            refine HSF.out.mono ?_
            rintro e w' ⟨rfl, rfl⟩
            go_wp2_with (at_builtin; refine wpList_append_lies rfl _ _ 25 rfl w.heap.size 3 q0 (.int .i64 0) 1 8 Try.underlying25 hq hq0 hq1 hq2 rfl (by decide) _ ys.length (ints ys) rfl HX6.out.wrd ⟨w5.heap.size, 0, none⟩ 1 1 [.int .i64 (n : Int)] rfl rfl (news_one _ _ _) (by simp [Value.oneCell']) (by omega) (by unfold maxLen; omega) (by omega) (by simp; omega) (w5.heap.size + 1) (by simp) ?_)
            intro g9 c9 w9 hown9 hgrow hat _
            have kx := HX6.out.mid hgrow
            have cz : w9.cell? ⟨X, 3, none⟩ = some (.slice wq ys.length wc) := by simp [World.cell?, kx]
            have ez : w9.frozen? ⟨X, 3, none⟩ = false := by simp [World.frozen?, kx]
            have HX9 := Lib.hid (HX6.out.putWord (z := (n : Int)) hgrow (by simp only [ints, List.map_append, List.map_cons, List.map_nil]; exact hown9) (hat.imp id (fun h => by rw [h]; simp)))
            have HB9 : Hid (Below w.heap.size w (w9.setCell ⟨X, 3, none⟩ (.slice (some ⟨g9, 0, none⟩) (ys.length + 1) c9))) := Lib.hid (below_put (v := .slice wq ys.length wc) (HB.out.alloc hsz5 _) hgrow (by simp; omega) (fun j hj => (HX6.out.wrd.lt j hj).1) HX6.out.lo)
            clear hown9 hgrow hat kx HX HX6
            go_wp2_with fail
            go_roundw
            case rel => exact ⟨n + 1, _, by omega, by go_num, by rw [HEQ.out]; exact HX9, HB9⟩
            case measure => simp [intOf]; omega
end Go.Proofs.Ytfkcchbbbfeamaa
