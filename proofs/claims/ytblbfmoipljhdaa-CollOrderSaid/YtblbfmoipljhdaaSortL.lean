import Derived.Test.YtblbfmoipljhdaaSortK
namespace Go.Proofs.Ytblbfmoipljhdaa
open Go.RowKit
set_option linter.unusedVariables false
set_option linter.unusedSimpArgs false

set_option maxHeartbeats 4000000 in
set_option maxRecDepth 100000 in
theorem corder_calls (w : World) (A : Option Addr) (n cap : Nat) (os : List Int) (hn : n = os.length) (hcap : n ≤ cap) (hx : ∀ i (hi : i < os.length), ∃ p : Addr, A = some p ∧ w.cell? (p.add i) = some (.int .i64 os[i]) ∧ (p.add i).block < w.heap.size) :
    Calls Try.prog 4 #[.slice A n cap] w fun e w' => e = .returned (.bool true) ∧ Below w.heap.size w w' := by
  by_cases hbig : 100 < n
  · exact corder_big w A n cap hbig
  by_cases h00 : n = 0
  · rw [h00]; exact corder_zero w A cap
  have H1 := Lib.hid (order_calls w A n cap os hn hcap (by omega) hx)
  have hn0 : 0 < n := by omega
  have hn100 : n ≤ 100 := by omega
  obtain ⟨px, hpx⟩ : ∃ px, A = some px := by
    obtain ⟨p, e, _⟩ := hx 0 (by omega)
    exact ⟨p, e⟩
  subst hpx
  have HX : Hid (∀ y, y < n → w.cell? (px.add y) = some (.int .i64 (Kof os (y : Int))) ∧ (px.add y).block < w.heap.size) := Lib.hid (fun y hy => by
    obtain ⟨p, e, c, b⟩ := hx y (by omega)
    cases e
    have hyl : y < os.length := by omega
    have e1 : Kof os (y : Int) = os[y] := by unfold Kof; simp [hyl]
    rw [e1]; exact ⟨c, b⟩)
  have HN := Lib.hid hn
  have hz0 : ¬ (100 : Int) < (n : Int) := by omega
  clear hx hn hbig h00
  obtain ⟨i0, hi, hzz⟩ := Option.map_eq_some_iff.1 info_int
  simp only [Prod.mk.injEq] at hzz
  obtain ⟨hz1, hz2, hz3⟩ := hzz
  have HI := Lib.hid (And.intro hi (And.intro hz1 (And.intro hz2 hz3)))
  clear hi hz1 hz2 hz3
  have mb := fun w => make_bools w n (by omega)
  go_enter Try.func4, Try.ntmps4
  go_wp2_with fail
  refine H1.out.mono ?_
  rintro e w1 ⟨A', cap', g, rfl, hT, hb⟩
  obtain ⟨Bo, rfl, hWB, cso, hcs, hg⟩ := hT.at' hn0
  have hcap' := hT.cap
  have HSO := Lib.hid hT.so
  have HIJ := Lib.hid (hT.pm.ij (Nat.le_refl n) (Ij.idf n))
  have HY : Hid (∀ i, i < n → ∃ y : Nat, y < n ∧ g i = (y : Int)) := Lib.hid (fun i hi => by
    obtain ⟨l, _, h2, e⟩ := hT.pm.from i (by omega) hi
    exact ⟨l, h2, e⟩)
  have HG := Lib.hid hg
  obtain ⟨w2, e2⟩ : ∃ w2, w1.alloc (.cells (Array.replicate n (Value.bool false)) 4) = w2 := ⟨_, rfl⟩
  obtain ⟨Bs, hBs⟩ : ∃ Bs, w1.heap.size = Bs := ⟨_, rfl⟩
  have hol := (Array.getElem?_eq_some_iff.1 hcs).1
  have HC0 : Hid (Cs w w2 Bo cso Bs (List.replicate n false) (.slice none 0 0) (agn os g 0)) := Lib.hid (by
    have hb2 : Below w1.heap.size w1 w2 := by rw [← e2]; exact (Below.refl _ _).alloc (Nat.le_refl _) _
    refine ⟨(hb2.block Bo hol).trans hcs, by rw [← e2, ← hBs]; show (w1.heap.push _)[w1.heap.size]? = _; rw [Array.getElem?_push_size]; simp, World.ownsRow_nil _ _ _ _, ⟨by omega, fun k e => by cases e⟩, ⟨hWB, by rw [← hBs]; exact hb.size⟩, hb.trans (hb2.mono hb.size)⟩)
  clear hT hb H1 hWB hcs hg hol
  go_wp2_with fail
  clear e2 hBs mb
  go_loopg [5, 6] n (fun kq v5 v6 wr => ∃ (i : Nat) (bs : List Bool), i ≤ n ∧ n - i ≤ kq ∧ v6 = .int .i64 i ∧ Hid (bs.length = n ∧ ∀ p, i ≤ p → p < n → bs[(g p).toNat]? = some false) ∧ Hid (Cs w wr Bo cso Bs bs v5 (agn os g i)))
  case atStart => exact ⟨0, List.replicate n false, by omega, by omega, rfl, Lib.hid ⟨List.length_replicate, fun p _ hp => by
    obtain ⟨y, hy, e⟩ := HY.out p hp
    rw [e, Int.toNat_natCast, List.getElem?_replicate, if_pos hy]⟩, HC0.out⟩
  case round =>
    obtain ⟨i, bs, hi, hiq, rfl, HBS, HC⟩ := hrel
    by_cases hin : i < n
    · have hz1 : (i : Int) < (n : Int) := by omega
      have hzi : (0 : Int) ≤ (i : Int) := by omega
      obtain ⟨y, hy, hgy⟩ := HY.out i hin
      have hy1 : (y : Int) < (n : Int) := by omega
      have hy0 : (0 : Int) ≤ (y : Int) := by omega
      have hy0' : ¬ (y : Int) < 0 := by omega
      have hy1' : ¬ (n : Int) ≤ (y : Int) := by omega
      have HGY := Lib.hid hgy
      have hco : cso[i]? = some (.int .i64 (y : Int)) := by rw [HG.out i hin, hgy]
      have HCO := Lib.hid hco
      have c0 : wr.cell? ⟨Bo, i, none⟩ = some (.int .i64 (y : Int)) := by simp [World.cell?, HC.out.o, hco]
      have hby : bs[y]? = some false := by have := HBS.out.2 i (Nat.le_refl _) hin; rwa [hgy, Int.toNat_natCast] at this
      have c1 : wr.cell? ⟨Bs, y, none⟩ = some (.bool false) := by simp [World.cell?, HC.out.s, hby]
      have c2 : wr.frozen? ⟨Bs, y, none⟩ = false := by simp [World.frozen?, HC.out.s]
      obtain ⟨w3, e3⟩ : ∃ w3, wr.setCell ⟨Bs, y, none⟩ (.bool true) = w3 := ⟨_, rfl⟩
      have HC3 := Lib.hid (HC.out.set y true)
      rw [e3] at HC3
      have HBS3 : Hid ((bs.set y true).length = n ∧ ∀ p, i + 1 ≤ p → p < n → (bs.set y true)[(g p).toNat]? = some false) := Lib.hid ⟨by rw [List.length_set]; exact HBS.out.1, fun p h1 h2 => by
        have h3 := HBS.out.2 p (by omega) h2
        obtain ⟨y', hy', e'⟩ := HY.out p h2
        rw [e', Int.toNat_natCast] at h3 ⊢
        rw [List.getElem?_set_ne (fun e => by
          have := HIJ.out i p hin h2 (by rw [hgy, e', e])
          omega)]
        exact h3⟩
      have d0 : w3.cell? ⟨Bo, i, none⟩ = some (.int .i64 (y : Int)) := by simp [World.cell?, HC3.out.o, hco]
      obtain ⟨q1, q2⟩ := HX.out y hy
      have d1 := ((HC3.out.below).cell (p := px.add y) q2).trans q1
      have HX1 := Lib.hid (And.intro q1 q2)
      clear q1 q2 hco hgy hby
      obtain ⟨AA, capA, hv, hcA⟩ := row_form0 HC.out.a
      rw [agn_length] at hv hcA
      subst hv
      by_cases hi0 : i = 0
      · subst hi0
        go_wp2_with fail
        go_quiet (fail)
        have HC4 := Lib.hid (HC3.out.drewN nq)
        clear c0 c1 c2 e3 d0 d1 HC3 HC
        generalize w3.drewN nq = wd at *
        have d0 : wd.cell? ⟨Bo, 0, none⟩ = some (.int .i64 (y : Int)) := by simp [World.cell?, HC4.out.o, HCO.out]
        have d1 := ((HC4.out.below).cell (p := px.add y) HX1.out.2).trans HX1.out.1
        have HRow : Hid (wd.ownsRow w.heap.size 3 1 (.slice AA 0 capA) 0 ((agn os g 0).map fun x => Value.int .i64 x)) := Lib.hid (by have := HC4.out.a; rwa [agn_length] at this)
        have HBW : Hid (w.heap.size ≤ wd.heap.size) := Lib.hid HC4.out.below.size
        go_wp2_with (at_builtin; refine wpList_append_lies _ rfl (.tmp 108) (.tmp 116) 22 rfl w.heap.size 3 i0 (.int .i64 0) 1 8 Try.underlying22 HI.out.1 HI.out.2.1 HI.out.2.2.1 HI.out.2.2.2 rfl (by decide) (.slice AA 0 capA) 0 ((agn os g 0).map fun x => Value.int .i64 x) rfl (HRow.out.alloc _) ⟨wd.heap.size, 0, none⟩ 1 1 [.int .i64 (Kof os (y : Int))] rfl rfl ?aN ?aO (by decide) ?a63 ?aY ?aB (wd.heap.size + 1) ?aH ?_; (case aN => exact cells_one_new _ _ _); (case aO => simp [Value.oneCell']); (case a63 => unfold maxLen; omega); (case aY => omega); (case aB => have := HBW.out; simp; omega); (case aH => simp); intro r cap2 wA hown hgrow hat hlt1; have HC5 : Hid (Cs w wA Bo cso Bs (bs.set y true) (.slice (some ⟨r, 0, none⟩) (0 + 1) cap2) (agn os g (0 + 1))) := Lib.hid (by rw [agn_snoc, HGY.out]; exact HC4.out.grown (agn_length os g 0).symm hown hgrow hat); clear hown hgrow hat hlt1 HRow HBW HC4 d0 d1)
        go_roundg (n - (0 + 1))
        case measure => omega
        case rel => exact ⟨0 + 1, bs.set y true, by omega, Nat.le_refl _, by go_num, HBS3.out, HC5.out⟩
      · obtain ⟨ip, hip⟩ : ∃ ip, i = ip + 1 := ⟨i - 1, by omega⟩
        subst hip
        have hcast : ((ip + 1 : Nat) : Int) = (ip : Int) + 1 := by omega
        rw [hcast] at hz1 hzi ⊢
        clear hcast
        obtain ⟨y', hy', hgy'⟩ := HY.out ip (by omega)
        have hyy1 : (y' : Int) < (n : Int) := by omega
        have hyy0 : (0 : Int) ≤ (y' : Int) := by omega
        have hco' : cso[ip]? = some (.int .i64 (y' : Int)) := by rw [HG.out ip (by omega), hgy']
        have d2 : w3.cell? ⟨Bo, ip, none⟩ = some (.int .i64 (y' : Int)) := by simp [World.cell?, HC3.out.o, hco']
        obtain ⟨q1, q2⟩ := HX.out y' hy'
        have d3 := ((HC3.out.below).cell (p := px.add y') q2).trans q1
        have hlex := HSO.out ip (ip + 1) (by omega) (by omega) (by omega)
        rw [hgy', HGY.out] at hlex
        have hgd : decide ((0 : Int) < (ip : Int) + 1) = true := decide_eq_true (by omega)
        have hip0 : (0 : Int) ≤ (ip : Int) := by omega
        have hip1 : (ip : Int) < (n : Int) := by omega
        have hk1 : decide (Kof os (y : Int) < Kof os (y' : Int)) = false := decide_eq_false (by unfold lex at hlex; omega)
        have HKN : Hid (Kof os (y : Int) = Kof os (y : Int)) := Lib.hid rfl
        obtain ⟨kc, hkc⟩ : ∃ kc, Kof os (y : Int) = kc := ⟨_, rfl⟩
        obtain ⟨kp, hkp⟩ : ∃ kp, Kof os (y' : Int) = kp := ⟨_, rfl⟩
        have HKC := Lib.hid hkc
        rw [hkc] at hk1 d1
        rw [hkp] at hk1 d3
        clear q1 q2 hco' hgy' HKN
        by_cases heq : kp = kc
        · have hk2 : (kp == kc) = true := beq_iff_eq.2 heq
          have hk4 : ¬ ((y : Int) < (y' : Int)) := by unfold lex at hlex; omega
          have hk3 : decide ((y : Int) < (y' : Int)) = false := decide_eq_false hk4
          have hk5 : decide (y < y') = false := decide_eq_false (by omega)
          clear heq hlex hkc hkp
          go_wp2_with fail
          go_quiet (fail)
          have HC4 := Lib.hid (HC3.out.drewN nq)
          clear c0 c1 c2 e3 d0 d1 d2 d3 HC3 HC
          generalize w3.drewN nq = wd at *
          have d0 : wd.cell? ⟨Bo, ip + 1, none⟩ = some (.int .i64 (y : Int)) := by simp [World.cell?, HC4.out.o, HCO.out]
          have d1 := ((HC4.out.below).cell (p := px.add y) HX1.out.2).trans HX1.out.1
          have HRow : Hid (wd.ownsRow w.heap.size 3 1 (.slice AA (ip + 1) capA) (ip + 1) ((agn os g (ip + 1)).map fun x => Value.int .i64 x)) := Lib.hid (by have := HC4.out.a; rwa [agn_length] at this)
          have HBW : Hid (w.heap.size ≤ wd.heap.size) := Lib.hid HC4.out.below.size
          go_wp2_with (at_builtin; refine wpList_append_lies _ rfl (.tmp 108) (.tmp 116) 22 rfl w.heap.size 3 i0 (.int .i64 0) 1 8 Try.underlying22 HI.out.1 HI.out.2.1 HI.out.2.2.1 HI.out.2.2.2 rfl (by decide) (.slice AA (ip + 1) capA) (ip + 1) ((agn os g (ip + 1)).map fun x => Value.int .i64 x) rfl (HRow.out.alloc _) ⟨wd.heap.size, 0, none⟩ 1 1 [.int .i64 (Kof os (y : Int))] rfl rfl ?aN ?aO (by decide) ?a63 ?aY ?aB (wd.heap.size + 1) ?aH ?_; (case aN => exact cells_one_new _ _ _); (case aO => simp [Value.oneCell']); (case a63 => unfold maxLen; omega); (case aY => omega); (case aB => have := HBW.out; simp; omega); (case aH => simp); intro r cap2 wA hown hgrow hat hlt1; have HC5 : Hid (Cs w wA Bo cso Bs (bs.set y true) (.slice (some ⟨r, 0, none⟩) ((ip + 1) + 1) cap2) (agn os g ((ip + 1) + 1))) := Lib.hid (by rw [agn_snoc, HGY.out]; exact HC4.out.grown (agn_length os g (ip + 1)).symm hown hgrow hat); clear hown hgrow hat hlt1 HRow HBW HC4 d0 d1)
          go_roundg (n - (ip + 1 + 1))
          case measure => omega
          case rel => exact ⟨ip + 1 + 1, bs.set y true, by omega, Nat.le_refl _, by go_num, HBS3.out, HC5.out⟩
        · have hk2 : (kp == kc) = false := beq_eq_false_iff_ne.2 heq
          clear heq hlex hkc hkp
          go_wp2_with fail
          go_quiet (fail)
          have HC4 := Lib.hid (HC3.out.drewN nq)
          clear c0 c1 c2 e3 d0 d1 d2 d3 HC3 HC
          generalize w3.drewN nq = wd at *
          have d0 : wd.cell? ⟨Bo, ip + 1, none⟩ = some (.int .i64 (y : Int)) := by simp [World.cell?, HC4.out.o, HCO.out]
          have d1 := ((HC4.out.below).cell (p := px.add y) HX1.out.2).trans HX1.out.1
          have HRow : Hid (wd.ownsRow w.heap.size 3 1 (.slice AA (ip + 1) capA) (ip + 1) ((agn os g (ip + 1)).map fun x => Value.int .i64 x)) := Lib.hid (by have := HC4.out.a; rwa [agn_length] at this)
          have HBW : Hid (w.heap.size ≤ wd.heap.size) := Lib.hid HC4.out.below.size
          go_wp2_with (at_builtin; refine wpList_append_lies _ rfl (.tmp 108) (.tmp 116) 22 rfl w.heap.size 3 i0 (.int .i64 0) 1 8 Try.underlying22 HI.out.1 HI.out.2.1 HI.out.2.2.1 HI.out.2.2.2 rfl (by decide) (.slice AA (ip + 1) capA) (ip + 1) ((agn os g (ip + 1)).map fun x => Value.int .i64 x) rfl (HRow.out.alloc _) ⟨wd.heap.size, 0, none⟩ 1 1 [.int .i64 (Kof os (y : Int))] rfl rfl ?aN ?aO (by decide) ?a63 ?aY ?aB (wd.heap.size + 1) ?aH ?_; (case aN => exact cells_one_new _ _ _); (case aO => simp [Value.oneCell']); (case a63 => unfold maxLen; omega); (case aY => omega); (case aB => have := HBW.out; simp; omega); (case aH => simp); intro r cap2 wA hown hgrow hat hlt1; have HC5 : Hid (Cs w wA Bo cso Bs (bs.set y true) (.slice (some ⟨r, 0, none⟩) ((ip + 1) + 1) cap2) (agn os g ((ip + 1) + 1))) := Lib.hid (by rw [agn_snoc, HGY.out]; exact HC4.out.grown (agn_length os g (ip + 1)).symm hown hgrow hat); clear hown hgrow hat hlt1 HRow HBW HC4 d0 d1)
          go_roundg (n - (ip + 1 + 1))
          case measure => omega
          case rel => exact ⟨ip + 1 + 1, bs.set y true, by omega, Nat.le_refl _, by go_num, HBS3.out, HC5.out⟩
    · have hz1 : ¬ (i : Int) < (n : Int) := by omega
      have hie : i = n := by omega
      subst hie
      obtain ⟨AA, capA, hv, hcA⟩ := row_form0 HC.out.a
      rw [agn_length] at hv hcA
      subst hv
      have hrow := HC.out.a
      rw [agn_length] at hrow
      obtain ⟨ra, hAA, -, -⟩ := row_form1 hrow (by omega)
      subst hAA
      have H1 := Lib.hid (order_calls wr (some ⟨ra, 0, none⟩) i capA (agn os g i) (agn_length os g i).symm hcA (by omega) (fun j hj => by
        have hj' : j < i := by rw [agn_length] at hj; exact hj
        have e1 := hrow.cellAt j (by omega)
        rw [List.getElem?_map, List.getElem?_eq_getElem hj, Option.map_some] at e1
        exact ⟨_, rfl, by rw [Go.WideShapes.add_plain, Nat.zero_add]; exact e1, by rw [Go.WideShapes.add_plain]; exact (hrow.lt ra rfl).2⟩))
      have HB1 := Lib.hid HC.out.below
      clear hrow HC HBS
      go_wp2_with fail
      refine H1.out.mono ?_
      rintro e w5 ⟨A2, cap2, g2, rfl, hT, hb⟩
      have HID := Lib.hid (again_ident HSO.out hT.pm hT.so)
      obtain ⟨B2, rfl, -, cs2, hcs2, hg2⟩ := hT.at' hn0
      have hc2 := hT.cap
      have HB2 := Lib.hid (HB1.out.trans (hb.mono HB1.out.size))
      have HG2 : Hid (w5.heap[B2]? = some (.cells cs2 3 (0, 0)) ∧ ∀ j, j < i → cs2[j]? = some (.int .i64 (j : Int))) := Lib.hid ⟨hcs2, fun j hj => by rw [hg2 j hj, HID.out j hj]⟩
      clear hT hb H1 hcs2 hg2 HB1
      go_wp2_with fail
      go_loopg [8] i (fun kq v8 wr => ∃ (j : Nat), j ≤ i ∧ i - j ≤ kq ∧ v8 = .int .i64 j ∧ wr = w5)
      case atStart => exact ⟨0, by omega, by omega, rfl, rfl⟩
      case round =>
        obtain ⟨j, hj, hjq, rfl, rfl⟩ := hrel
        by_cases hjn : j < i
        · have hz2 : (j : Int) < (i : Int) := by omega
          have hz3 : (0 : Int) ≤ (j : Int) := by omega
          have c0 : wr.cell? ⟨B2, j, none⟩ = some (.int .i64 (j : Int)) := by simp [World.cell?, HG2.out.1, HG2.out.2 j hjn]
          go_wp2_with fail
          go_roundg (i - (j + 1))
          case measure => omega
          case rel => exact ⟨j + 1, by omega, Nat.le_refl _, by go_num, rfl⟩
        · have hz2 : ¬ (j : Int) < (i : Int) := by omega
          go_wp2_with fail
          refine (awake_calls _).mono ?_
          rintro e w6 ⟨rfl, hb⟩
          go_wp2_with fail
          go_ret
          exact ⟨rfl, HB2.out.trans (hb.mono HB2.out.size)⟩
end Go.Proofs.Ytblbfmoipljhdaa
