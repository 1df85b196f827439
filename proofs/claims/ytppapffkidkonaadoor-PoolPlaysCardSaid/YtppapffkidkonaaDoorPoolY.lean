import Derived.Test.YtppapffkidkonaaDoorPoolX
import Derived.Test.YtppapffkidkonaaDoorPoolU
namespace Go.Proofs.YtppapffkidkonaaDoor
open Go.RowKit
set_option linter.unusedVariables false
set_option linter.unusedSimpArgs false

set_option maxHeartbeats 4000000 in
set_option maxRecDepth 100000 in
theorem plays_calls (w : World) (he : Env w) (m : Int) (A : Option Addr) (cap0 : Nat) (xs : List Int) (hx : ∀ i (hi : i < xs.length), ∃ p : Addr, A = some p ∧ w.cell? (p.add i) = some (.int .i64 xs[i]) ∧ (p.add i).block < w.heap.size) (hxl : xs.length ≤ cap0) (hxm : xs.length < 4611686018427387904)
    (A2 : Option Addr) (cap2 : Nat) (rs : List (Int × Int)) (hr : ∀ i (hi : i < rs.length), ∃ b o : Nat, A2 = some ⟨b, o, none⟩ ∧ w.cell? ⟨b, o + i * 2, none⟩ = some (.int .i64 rs[i].1) ∧ w.cell? ⟨b, o + i * 2 + 1, none⟩ = some (.int .i64 rs[i].2) ∧ b < w.heap.size) (hrl : rs.length ≤ cap2) (hrm : rs.length < 4611686018427387904) (hrb : ∀ h ∈ rs, -9223372036854775808 ≤ h.1 ∧ h.1 ≤ 9223372036854775807) :
    Calls Tryd.prog 4 #[.int .i64 m, .slice A xs.length cap0, .slice A2 rs.length cap2] w fun e w' => e = .returned (.bool true) ∧ Below w.heap.size w w' := by
  have HE := Lib.hid he
  have HX := Lib.hid hx
  have HRB := Lib.hid hrb
  have HRX := Lib.hid hr
  clear he hx hrb hr
  obtain ⟨n, hn⟩ : ∃ n, n = xs.length := ⟨_, rfl⟩
  rw [← hn] at hxl hxm ⊢
  have HXN := Lib.hid hn
  clear hn
  obtain ⟨nr, hn⟩ : ∃ nr, nr = rs.length := ⟨_, rfl⟩
  rw [← hn] at hrl hrm ⊢
  have HRN := Lib.hid hn
  clear hn
  obtain ⟨i0, hi, hzz⟩ := Option.map_eq_some_iff.1 info_hnd
  simp only [Prod.mk.injEq] at hzz
  obtain ⟨hz0, hz1, hz2⟩ := hzz
  have HI := Lib.hid (And.intro hi (And.intro hz0 (And.intro hz1 hz2)))
  clear hi hz0 hz1 hz2
  obtain ⟨g, hg⟩ : ∃ g, g = w.heap.size := ⟨_, rfl⟩
  have HG := Lib.hid hg
  have hgle := Nat.le_of_eq hg
  have HB0 : Hid (Below g w w) := Lib.hid (by rw [hg]; exact Below.refl _ _)
  clear hg
  have hu := Tryd.underlying27
  go_enter Tryd.func4, Tryd.ntmps4
  go_wp2_with fail
  go_loopg [0, 7] 2 (fun kq v0 v7 wr => ∃ (q : Nat) (m' : Int), q ≤ 2 ∧ 2 - q ≤ kq ∧ v0 = .int .i64 m' ∧ v7 = .int .i64 q ∧ Hid (Below g w wr))
  case atStart => exact ⟨0, m, by omega, by omega, rfl, rfl, HB0.out⟩
  case round =>
    obtain ⟨q, m', hq, hqq, rfl, rfl, HB⟩ := hrel
    by_cases hq2 : q < 2
    · have hz1 : (q : Int) < 2 := by omega
      obtain ⟨M, hM⟩ : ∃ M : Nat, min (max m' 0) 10000 = (M : Int) := ⟨(min (max m' 0) 10000).toNat, by omega⟩
      have hM4 : M ≤ 10000 := by omega
      have HN := Lib.hid (new_pl m' wr g (Nat.le_trans hgle HB.out.size))
      rw [hM] at HN
      have HMM := Lib.hid hM
      clear hM
      go_wp2_with fail
      refine HN.out.mono ?_
      clear HN
      rintro e w1 ⟨rfl, hP, hB1, hb1⟩
      obtain ⟨gp, hgp⟩ : ∃ gp, wr.heap.size = gp := ⟨_, rfl⟩
      rw [hgp] at hP hb1
      have HP1 := Lib.hid hP
      have HB1 : Hid (Below g w w1) := Lib.hid (HB.out.trans (hB1.mono (Nat.le_trans hgle HB.out.size)))
      have HBe := Lib.hid hb1
      have HN := Lib.hid (ref_new m' w1 M HMM.out)
      clear hP hB1 hb1 HB
      go_wp2_with fail
      refine HN.out.mono ?_
      clear HN hgp
      rintro e w2 ⟨gr, r1, r2, rfl, hR, hb2⟩
      have HS0 : Hid (Ps g w w2 gp gr r1 r2 M [] (.slice none 0 0) (.slice none 0 0) []) := Lib.hid (by
        have h1 := hR.ge
        have h2 := HBe.out
        refine ⟨HP1.out.below hb2, (by rw [ext_nil]; exact hR.mono (Nat.le_trans hgle HB1.out.size)), World.ownsRow_nil _ _ _ _, (fun k e => by cases e), (fun k e => ⟨by rcases e with rfl | rfl | rfl <;> omega, fun e' => by cases e'⟩), HB1.out.trans (hb2.mono (Nat.le_trans hgle HB1.out.size))⟩)
      clear hR hb2 HP1 HB1 HBe
      go_wp2_with fail
      go_loopg [10, 11] 60 (fun kq v10 v11 wr => ∃ (i : Nat) (v : Value) (ps : List (Int × Bool)) (all : List (Int × Int)), i ≤ 60 ∧ 60 - i ≤ kq ∧ v11 = .int .i64 i ∧ Hid (Pn M ps i) ∧ Hid (all.length ≤ i) ∧ Hid (∀ h ∈ all, 0 ≤ h.1 ∧ h.1 ≤ 10000) ∧ Hid (Ps g w wr gp gr r1 r2 M ps v v10 all))
      case atStart => exact ⟨0, _, [], [], by omega, by omega, rfl, Pn.start M, Nat.le_refl _, (fun h hh => by cases hh), HS0.out⟩
      case round =>
        obtain ⟨i, v, ps, all, hi, hiq, rfl, HU, HAL, HAB, HS⟩ := hrel
        by_cases hin : i < n ∧ i < 60
        · obtain ⟨hi1, hi2⟩ := hin
          have hz1 : (i : Int) < (n : Int) := by omega
          have hz2 : (i : Int) < 60 := by omega
          have hz0 : (0 : Int) ≤ (i : Int) := by omega
          obtain ⟨px, rfl, hcx, hbx⟩ := HX.out i (by rw [← HXN.out]; exact hi1)
          obtain ⟨x, hxe⟩ : ∃ x, x = xs[i]'(by rw [← HXN.out]; exact hi1) := ⟨_, rfl⟩
          rw [← hxe] at hcx
          have hcx' := ((HS.out.below).cell (p := px.add i) (by rw [HG.out]; exact hbx)).trans hcx
          have HCX := Lib.hid (And.intro hcx hbx)
          clear hxe hcx hbx
          obtain ⟨AA, capA, rfl, hcA⟩ := row_form0 HS.out.ra
          obtain ⟨na, hna⟩ : ∃ na, na = all.length := ⟨_, rfl⟩
          rw [← hna] at HS hcA ⊢
          have HNA := Lib.hid hna
          clear hna
          have hcx2 : ∀ cs, (wr.alloc (.cells cs 27)).cell? (px.add i) = some (.int .i64 x) := fun cs => (((Below.refl wr.heap.size wr).alloc (Nat.le_refl _) _).cell (p := px.add i) (by have := HCX.out.2; have := HS.out.below.size; omega)).trans hcx'
          go_wp2_with fail
          go_region
          clear hcx2
          obtain ⟨a0, ha0⟩ : ∃ a0, bits .and .i64 (x / 256) 7 = a0 := ⟨_, rfl⟩
          obtain ⟨t0, ht0⟩ : ∃ t0, bits .and .i64 (x / 65536) 3 = t0 := ⟨_, rfl⟩
          have haB : 0 ≤ a0 ∧ a0 ≤ 10000 := by rw [← ha0, and_7]; omega
          rw [ha0, ht0]
          clear ha0 ht0
          obtain ⟨w3, e3⟩ : ∃ w3, (wr.alloc (.cells #[.int .i64 a0, .int .i64 t0] 27)).drew = w3 := ⟨_, rfl⟩
          have hb3 : Below wr.heap.size wr w3 := by rw [← e3]; exact ((Below.refl _ _).alloc (Nat.le_refl _) _).drew
          have HF3 := Lib.hid (HS.out.newFar (wr' := w3) (a := a0) (t := t0) (by rw [← e3]; show (wr.heap.push _)[wr.heap.size]? = _; exact Array.getElem?_push_size))
          have HS3 := Lib.hid (HS.out.under hb3 hgle)
          obtain ⟨H, hH⟩ : ∃ H, wr.heap.size = H := ⟨_, rfl⟩
          rw [e3]
          rw [hH] at HF3 ⊢
          have HAI : Hid (-9223372036854775808 ≤ a0 ∧ a0 ≤ 9223372036854775807) := Lib.hid (by omega)
          clear e3 hH HS hb3 hcx' haB
          have hcx' := ((HS3.out.below).cell (p := px.add i) (by rw [HG.out]; exact HCX.out.2)).trans HCX.out.1
          go_upto_region 12 with (fail)
          go_cut [62] from 29 to 145 (fun v62 wc => ∃ b : Bool, v62 = .bool b ∧ wc = w3 ∧ (b = true → 0 < na))
          case first =>
            by_cases h0 : 0 < na
            · have hy : (0 : Int) < (na : Int) := by omega
              by_cases hb4 : bits .and .i64 x 4 = 4
              · go_wp2_with fail
                go_meet
                case rel => exact ⟨true, rfl, rfl, fun _ => h0⟩
              · go_wp2_with fail
                go_meet
                case rel => exact ⟨false, by simp [hb4], rfl, fun e => by cases e⟩
            · have hy : ¬ (0 : Int) < (na : Int) := by omega
              go_wp2_with fail
              go_meet
              case rel => exact ⟨false, rfl, rfl, fun e => by cases e⟩
          case rest =>
            obtain ⟨b, rfl, rfl, hbn⟩ := hcut
            go_upto_if 62 with (fail)
            go_cut [12] from 29 to 145 (fun v12 wc2 => ∃ (a t : Int), v12 = .pointer (some ⟨H, 0, none⟩) ∧ Hid (-9223372036854775808 ≤ a ∧ a ≤ 9223372036854775807) ∧ Hid (Far g wc2 gp gr r1 r2 v (.slice AA na capA) H a t) ∧ Hid (Ps g w wc2 gp gr r1 r2 M ps v (.slice AA na capA) all))
            case first =>
              cases b with
              | false =>
                go_wp2_with fail
                go_meet
                case rel => exact ⟨a0, t0, rfl, HAI.out, HF3.out, HS3.out⟩
              | true =>
                have h0 := hbn rfl
                have hy : (0 : Int) < (na : Int) := by omega
                have hy1 : ¬ ((na : Int) = 0) := by omega
                obtain ⟨k, hk, hkn⟩ := tm_len (x / 256) na (by omega)
                have hk1 : (k : Int) < (na : Int) := by omega
                have hk0 : (0 : Int) ≤ (k : Int) := by omega
                have hkA : k < all.length := by rw [← HNA.out]; exact hkn
                obtain ⟨ra, hAA, -, -⟩ := row_form1 HS3.out.ra (by omega)
                subst hAA
                obtain ⟨c0, c1⟩ := HS3.out.cellsA HNA.out k hkA
                have hq := HAB.out _ (List.getElem_mem hkA)
                generalize all[k] = q at *
                obtain ⟨q1, q2⟩ := q
                simp only at c0 c1 hq
                obtain ⟨f0, f1, f2, f3, f4, f5⟩ := HF3.out.cells (a' := q1)
                have HS4 := Lib.hid (HS3.out.far HF3.out (.int .i64 q1) (.int .i64 q2))
                have HF4 := Lib.hid (HF3.out.store q1 q2)
                obtain ⟨w5, e5⟩ : ∃ w5, wc.setCell ⟨H, 0, none⟩ (.int .i64 q1) = w5 := ⟨_, rfl⟩
                rw [e5] at f4 f5 HS4 HF4
                obtain ⟨w6, e6⟩ : ∃ w6, w5.setCell ⟨H, 1, none⟩ (.int .i64 q2) = w6 := ⟨_, rfl⟩
                rw [e6] at HS4 HF4
                go_wp2_with fail
                go_meet
                case rel => exact ⟨q1, q2, rfl, Lib.hid (by omega), HF4.out, HS4.out⟩
            case rest =>
              obtain ⟨a1, t1, rfl, HAI, HF, HS⟩ := hcut
              clear HF3 HS3 hcx' hbn
              have hcx' := ((HS.out.below).cell (p := px.add i) (by rw [HG.out]; exact HCX.out.2)).trans HCX.out.1
              go_upto_region 14 with (fail)
              go_cut [86] from 29 to 145 (fun v86 wc2 => ∃ b : Bool, v86 = .bool b ∧ wc2 = wc ∧ (b = true → i < nr))
              case first =>
                by_cases h0 : i < nr
                · have hy : (i : Int) < (nr : Int) := by omega
                  by_cases hb8 : bits .and .i64 x 8 = 8
                  · go_wp2_with fail
                    go_meet
                    case rel => exact ⟨true, rfl, rfl, fun _ => h0⟩
                  · go_wp2_with fail
                    go_meet
                    case rel => exact ⟨false, by simp [hb8], rfl, fun e => by cases e⟩
                · have hy : ¬ (i : Int) < (nr : Int) := by omega
                  go_wp2_with fail
                  go_meet
                  case rel => exact ⟨false, rfl, rfl, fun e => by cases e⟩
              case rest =>
                obtain ⟨b, rfl, rfl, hbn⟩ := hcut
                go_upto_if 86 with (fail)
                go_cut [12] from 29 to 145 (fun v12 wc2 => ∃ (a t : Int), v12 = .pointer (some ⟨H, 0, none⟩) ∧ Hid (-9223372036854775808 ≤ a ∧ a ≤ 9223372036854775807) ∧ Hid (Far g wc2 gp gr r1 r2 v (.slice AA na capA) H a t) ∧ Hid (Ps g w wc2 gp gr r1 r2 M ps v (.slice AA na capA) all))
                case first =>
                  cases b with
                  | false =>
                    go_wp2_with fail
                    go_meet
                    case rel => exact ⟨a1, t1, rfl, HAI.out, HF.out, HS.out⟩
                  | true =>
                    have h0 := hbn rfl
                    have hy : (i : Int) < (nr : Int) := by omega
                    have hiR : i < rs.length := by rw [← HRN.out]; exact h0
                    obtain ⟨rb, ro, hAA, c0, c1, hlt⟩ := HRX.out i hiR
                    subst hAA
                    have c0 := ((HS.out.below).cell (p := ⟨rb, ro + i * 2, none⟩) (by rw [HG.out]; exact hlt)).trans c0
                    have c1 := ((HS.out.below).cell (p := ⟨rb, ro + i * 2 + 1, none⟩) (by rw [HG.out]; exact hlt)).trans c1
                    have hq := HRB.out _ (List.getElem_mem hiR)
                    generalize rs[i] = q at *
                    obtain ⟨q1, q2⟩ := q
                    simp only at c0 c1 hq
                    obtain ⟨f0, f1, f2, f3, f4, f5⟩ := HF.out.cells (a' := q1)
                    have HS4 := Lib.hid (HS.out.far HF.out (.int .i64 q1) (.int .i64 q2))
                    have HF4 := Lib.hid (HF.out.store q1 q2)
                    obtain ⟨w5, e5⟩ : ∃ w5, wc.setCell ⟨H, 0, none⟩ (.int .i64 q1) = w5 := ⟨_, rfl⟩
                    rw [e5] at f4 f5 HS4 HF4
                    obtain ⟨w6, e6⟩ : ∃ w6, w5.setCell ⟨H, 1, none⟩ (.int .i64 q2) = w6 := ⟨_, rfl⟩
                    rw [e6] at HS4 HF4
                    clear hlt
                    go_wp2_with fail
                    go_meet
                    case rel => exact ⟨q1, q2, rfl, Lib.hid hq, HF4.out, HS4.out⟩
                case rest =>
                  clear HAI HF HS hcx' hbn
                  obtain ⟨a, t, rfl, HAI, HF, HS⟩ := hcut
                  have hcx' := ((HS.out.below).cell (p := px.add i) (by rw [HG.out]; exact HCX.out.2)).trans HCX.out.1
                  go_upto_if 96 with (fail)
                  by_cases hbit : bits .and .i64 x 1 = 1
                  · by_cases hfull : lf ps = M
                    · have hl := HU.out.len
                      have HTk := Lib.hid (take_full HS.out.pl (HE.out.below (by rw [← HG.out]; exact HS.out.below)) (by omega) (by rw [hfull]))
                      clear hl
                      go_wp2_with fail
                      refine HTk.out.mono ?_
                      rintro e wa ⟨j, rfl, hj, hb⟩
                      have HS5 := Lib.hid (HS.out.under hb hgle)
                      have HJ5 := Lib.hid hj
                      clear hb hj HS HF HTk hcx' HAI
                      obtain ⟨w4, e4⟩ : ∃ w4, wa.alloc (.cells #[.int .i64 0, .int .i64 0] 27) = w4 := ⟨_, rfl⟩
                      have hb4 : Below wa.heap.size wa w4 := by rw [← e4]; exact (Below.refl _ _).alloc (Nat.le_refl _) _
                      obtain ⟨GA, hGA⟩ : ∃ GA, wa.heap.size = GA := ⟨_, rfl⟩
                      have HRG : Hid (w4.heap[GA]? = some (.cells #[.int .i64 0, .int .i64 0] 27 (0, 0))) := Lib.hid (by rw [← e4, ← hGA]; show (wa.heap.push _)[wa.heap.size]? = _; exact Array.getElem?_push_size)
                      have HS6 := Lib.hid (HS5.out.under hb4 hgle)
                      have HJ6 := Lib.hid (HJ5.out.below hb4)
                      have HTk := Lib.hid (ref_take_full HS6.out.rp (by omega) (by rw [lf_ext HU.out.len, hfull]))
                      have x0 : w4.cell? ⟨GA, 0, none⟩ = some (.int .i64 0) := by simp [World.cell?, HRG.out]
                      have x1 : w4.cell? ⟨GA, 1, none⟩ = some (.int .i64 0) := by simp [World.cell?, HRG.out]
                      have x2 : w4.frozen? ⟨GA, 0, none⟩ = false := by simp [World.frozen?, HRG.out]
                      have x3 : w4.frozen? ⟨GA, 1, none⟩ = false := by simp [World.frozen?, HRG.out]
                      have x4 : w4.setCell ⟨GA, 0, none⟩ (.int .i64 0) = w4 := set_same HRG.out rfl
                      have x5 : w4.setCell ⟨GA, 1, none⟩ (.int .i64 0) = w4 := set_same HRG.out rfl
                      clear hb4 HS5 HJ5
                      go_wp2_with fail
                      refine HTk.out.mono ?_
                      rintro e w7 ⟨rfl, hb⟩
                      have HS7 := Lib.hid (HS6.out.under hb hgle)
                      have HJ7 := Lib.hid (HJ6.out.below hb)
                      have HRG7 := Lib.hid ((hb.block GA (Array.getElem?_eq_some_iff.1 HRG.out).1).trans HRG.out)
                      clear hb HS6 HJ6 HRG HTk e4 hGA x0 x1 x2 x3 x4 x5
                      obtain ⟨w8, e8⟩ : ∃ w8, w7.alloc (.cells #[.int .i64 0, .int .i64 0] 27) = w8 := ⟨_, rfl⟩
                      have hb8 : Below w7.heap.size w7 w8 := by rw [← e8]; exact (Below.refl _ _).alloc (Nat.le_refl _) _
                      obtain ⟨GB, hGB⟩ : ∃ GB, w7.heap.size = GB := ⟨_, rfl⟩
                      have HRB8 : Hid (w8.heap[GB]? = some (.cells #[.int .i64 0, .int .i64 0] 27 (0, 0))) := Lib.hid (by rw [← e8, ← hGB]; show (w7.heap.push _)[w7.heap.size]? = _; exact Array.getElem?_push_size)
                      have HRG8 := Lib.hid ((hb8.block GA (Array.getElem?_eq_some_iff.1 HRG7.out).1).trans HRG7.out)
                      have HS8' := Lib.hid (HS7.out.under hb8 hgle)
                      have HJ8 := Lib.hid (HJ7.out.below hb8)
                      clear hb8 HS7 HJ7 HRG7
                      have y0 : w8.cell? ⟨GA, 0, none⟩ = some (.int .i64 0) := by simp [World.cell?, HRG8.out]
                      have y1 : w8.cell? ⟨GA, 1, none⟩ = some (.int .i64 0) := by simp [World.cell?, HRG8.out]
                      have y2 : w8.cell? ⟨GB, 0, none⟩ = some (.int .i64 0) := by simp [World.cell?, HRB8.out]
                      have y3 : w8.cell? ⟨GB, 1, none⟩ = some (.int .i64 0) := by simp [World.cell?, HRB8.out]
                      have x2 : w8.frozen? ⟨GB, 0, none⟩ = false := by simp [World.frozen?, HRB8.out]
                      have x3 : w8.frozen? ⟨GB, 1, none⟩ = false := by simp [World.frozen?, HRB8.out]
                      have x4 : w8.setCell ⟨GB, 0, none⟩ (.int .i64 0) = w8 := set_same HRB8.out rfl
                      have x5 : w8.setCell ⟨GB, 1, none⟩ (.int .i64 0) = w8 := set_same HRB8.out rfl
                      go_wp2_with fail
                      refine (Code_join j 2 _ (HE.out.below (by rw [← HG.out]; exact HS8'.out.below)).et HJ8.out).mono ?_
                      rintro e w9 ⟨rfl, hb⟩
                      have HS8 := Lib.hid (HS8'.out.under hb hgle)
                      have HRG9 := Lib.hid ((hb.block GA (Array.getElem?_eq_some_iff.1 HRG8.out).1).trans HRG8.out)
                      clear hb HS8' HJ8 HRG8 HRB8 y0 y1 y2 y3 e8 hGB x2 x3 x4 x5
                      have y0 : w9.cell? ⟨GA, 0, none⟩ = some (.int .i64 0) := by simp [World.cell?, HRG9.out]
                      have y1 : w9.cell? ⟨GA, 1, none⟩ = some (.int .i64 0) := by simp [World.cell?, HRG9.out]
                      have HRA : Hid (w9.ownsRow g 27 2 (.slice AA na capA) na (pC all)) := Lib.hid (by have := HS8.out.ra; rwa [← HNA.out] at this)
                      have HBW := Lib.hid (Nat.le_trans hgle HS8.out.below.size)
                      go_wp2_with (at_builtin; refine wpList_append_lies _ rfl (.tmp 118) (.tmp 120) 25 rfl g 27 i0 (.agg #[.int .i64 0, .int .i64 0]) 2 16 Tryd.underlying25 HI.out.1 HI.out.2.1 HI.out.2.2.1 HI.out.2.2.2 rfl (by decide) (.slice AA na capA) na (pC all) rfl (HRA.out.alloc _) ⟨w9.heap.size, 0, none⟩ 1 1 [.int .i64 0, .int .i64 0] rfl rfl ?aN ?aO (by decide) ?a63 ?aY ?aB (w9.heap.size + 1) ?aH ?_; (case aN => exact cells_two_new _ _ _ _); (case aO => simp [Value.oneCell']); (case a63 => have := HAL.out; have := HNA.out; unfold maxLen; omega); (case aY => have := HAL.out; have := HNA.out; omega); (case aB => have := HBW.out; simp; omega); (case aH => simp); intro r cap wA hown hgrow hat hlt1; have HS9 := Lib.hid (HS8.out.grownA HBW.out (p := (0, 0)) HNA.out hown hgrow hat); clear hown hgrow hat hlt1 y0 y1 HRA HBW HS8)
                      go_roundg (60 - (i + 1))
                      case measure => omega
                      case rel => exact ⟨i + 1, v, ps, all ++ [(0, 0)], by omega, Nat.le_refl _, by go_num, HU.out.mono (by omega), Lib.hid (by have := HAL.out; simp; omega), Lib.hid (fun h hh => by
                        rcases List.mem_append.1 hh with hh | hh
                        · exact HAB.out h hh
                        · obtain rfl := List.mem_singleton.1 hh; simp), HS9.out⟩
                    · have HTk := Lib.hid (HS.out.take HU.out (by omega) hfull)
                      have hT := HU.out.tkT
                      have hlf : lf ps ≤ 60 := by have := lf_le ps; have := HU.out.lens; omega
                      have HX1 := Lib.hid (ext_take HU.out.len hfull)
                      have HLF := Lib.hid (lf_ext HU.out.len)
                      have HLM : Hid (lf ps < M) := Lib.hid (by have := lf_le ps; have := HU.out.len; omega)
                      have HU2 := Lib.hid (HU.out.take hfull)
                      obtain ⟨T, hT'⟩ : ∃ T, T = tkT ps := ⟨_, rfl⟩
                      obtain ⟨L, hL'⟩ : ∃ L, L = lf ps := ⟨_, rfl⟩
                      rw [← hT', ← hL'] at HTk HX1
                      rw [← hT'] at hT
                      rw [← hL'] at hlf HLM HLF
                      clear hfull hT' hL'
                      go_wp2_with fail
                      refine HTk.out.mono ?_
                      rintro e w2 ⟨rfl, v', hv, hP, hk⟩
                      obtain ⟨hRp, hback⟩ := HS.out.pool hv hP hk hgle
                      have HBK := Lib.hid hback
                      have HRP := Lib.hid hRp
                      clear hv hP hk hback hRp HS HF HTk hcx' HAI
                      obtain ⟨w4, e4⟩ : ∃ w4, w2.alloc (.cells #[.int .i64 (L : Int), .int .i64 T] 27) = w4 := ⟨_, rfl⟩
                      have hb4 : Below w2.heap.size w2 w4 := by rw [← e4]; exact (Below.refl _ _).alloc (Nat.le_refl _) _
                      obtain ⟨GA, hGA⟩ : ∃ GA, w2.heap.size = GA := ⟨_, rfl⟩
                      have HRG : Hid (w4.heap[GA]? = some (.cells #[.int .i64 (L : Int), .int .i64 T] 27 (0, 0))) := Lib.hid (by rw [← e4, ← hGA]; show (w2.heap.push _)[w2.heap.size]? = _; exact Array.getElem?_push_size)
                      have HGN : Hid (GA ≠ r1 ∧ GA ≠ r2) := Lib.hid (by have := HRP.out.lt; omega)
                      have HB4 := Lib.hid hb4
                      have HTk := Lib.hid (ref_take (HRP.out.below hb4) (by omega) L (T - 1) HLF.out.symm HLM.out HX1.out.1 (by omega))
                      rw [show T - 1 + 1 = T by omega] at HTk
                      clear hb4 HRP
                      go_wp2_with fail
                      refine HTk.out.mono ?_
                      rintro e w7 ⟨rfl, hRq, hkq⟩
                      rw [HX1.out.2] at hRq
                      have HS7 := Lib.hid (HBK.out w7 (Kp.fromBelow HB4.out hkq) hRq)
                      have HRG7 := Lib.hid ((hkq.block GA (Array.getElem?_eq_some_iff.1 HRG.out).1 (fun e => e.elim HGN.out.1 HGN.out.2)).trans HRG.out)
                      clear hRq hkq HBK HRG HB4 HTk e4 hGA
                      obtain ⟨w8, e8⟩ : ∃ w8, w7.alloc (.cells #[.int .i64 (L : Int), .int .i64 T] 27) = w8 := ⟨_, rfl⟩
                      have hb8 : Below w7.heap.size w7 w8 := by rw [← e8]; exact (Below.refl _ _).alloc (Nat.le_refl _) _
                      obtain ⟨GB, hGB⟩ : ∃ GB, w7.heap.size = GB := ⟨_, rfl⟩
                      have HRB8 : Hid (w8.heap[GB]? = some (.cells #[.int .i64 (L : Int), .int .i64 T] 27 (0, 0))) := Lib.hid (by rw [← e8, ← hGB]; show (w7.heap.push _)[w7.heap.size]? = _; exact Array.getElem?_push_size)
                      have HRG8 := Lib.hid ((hb8.block GA (Array.getElem?_eq_some_iff.1 HRG7.out).1).trans HRG7.out)
                      have HS8 := Lib.hid (HS7.out.under hb8 hgle)
                      clear hb8 HS7 HRG7
                      have y0 : w8.cell? ⟨GA, 0, none⟩ = some (.int .i64 (L : Int)) := by simp [World.cell?, HRG8.out]
                      have y1 : w8.cell? ⟨GA, 1, none⟩ = some (.int .i64 T) := by simp [World.cell?, HRG8.out]
                      have y2 : w8.cell? ⟨GB, 0, none⟩ = some (.int .i64 (L : Int)) := by simp [World.cell?, HRB8.out]
                      have y3 : w8.cell? ⟨GB, 1, none⟩ = some (.int .i64 T) := by simp [World.cell?, HRB8.out]
                      go_wp2_with fail
                      refine (Code_nil _).mono ?_
                      rintro e w9 ⟨rfl, rfl⟩
                      clear y2 y3 e8 hGB
                      have HRA : Hid (w9.ownsRow g 27 2 (.slice AA na capA) na (pC all)) := Lib.hid (by have := HS8.out.ra; rwa [← HNA.out] at this)
                      have HBW := Lib.hid (Nat.le_trans hgle HS8.out.below.size)
                      go_wp2_with (at_builtin; refine wpList_append_lies _ rfl (.tmp 118) (.tmp 120) 25 rfl g 27 i0 (.agg #[.int .i64 0, .int .i64 0]) 2 16 Tryd.underlying25 HI.out.1 HI.out.2.1 HI.out.2.2.1 HI.out.2.2.2 rfl (by decide) (.slice AA na capA) na (pC all) rfl (HRA.out.alloc _) ⟨w9.heap.size, 0, none⟩ 1 1 [.int .i64 (L : Int), .int .i64 T] rfl rfl ?aN ?aO (by decide) ?a63 ?aY ?aB (w9.heap.size + 1) ?aH ?_; (case aN => exact cells_two_new _ _ _ _); (case aO => simp [Value.oneCell']); (case a63 => have := HAL.out; have := HNA.out; unfold maxLen; omega); (case aY => have := HAL.out; have := HNA.out; omega); (case aB => have := HBW.out; simp; omega); (case aH => simp); intro r cap wA hown hgrow hat hlt1; have HS9 := Lib.hid (HS8.out.grownA HBW.out (p := ((L : Int), T)) HNA.out hown hgrow hat); clear hown hgrow hat hlt1 y0 y1 HRA HBW HS8)
                      go_roundg (60 - (i + 1))
                      case measure => omega
                      case rel => exact ⟨i + 1, v', tk ps, all ++ [((L : Int), T)], by omega, Nat.le_refl _, by go_num, HU2.out, Lib.hid (by have := HAL.out; simp; omega), Lib.hid (fun h hh => by
                        rcases List.mem_append.1 hh with hh | hh
                        · exact HAB.out h hh
                        · obtain rfl := List.mem_singleton.1 hh
                          have := HLM.out
                          simp only; omega), HS9.out⟩
                  · have cH1 : ∀ d os, Calls Tryd.prog 14 #[.pointer (some ⟨gp, 0, none⟩), .agg #[.int .i64 a, .int .i64 t]] (Sort.grow (redrawn wc d) os) fun e w'' => e = .returned (.bool (hasB ps a t)) ∧ ∃ p : Regrown, w'' = Sort.grow (redrawn wc p.d) p.os := fun d os => Calls.regrown_of (has_calls (HS.out.pl.below (below_regrown wc d os)) (by have := HU.out.lens; omega) a t)
                    have cH2 : ∀ d os, Calls Tryd.prog 15 #[.pointer (some ⟨gr, 0, none⟩), .agg #[.int .i64 a, .int .i64 t]] (Sort.grow (redrawn wc d) os) fun e w'' => e = .returned (.bool (hasB ps a t)) ∧ ∃ p : Regrown, w'' = Sort.grow (redrawn wc p.d) p.os := fun d os => Calls.regrown_of (by have := ref_has (HS.out.rp.below (below_regrown wc d os)) a t; rwa [hasB_ext] at this)
                    obtain ⟨f0, f1, -, -, -, -⟩ := HF.out.cells (a' := 0)
                    have k0 := cell_regrown f0
                    have k1 := cell_regrown f1
                    have HB5 := Lib.hid (fun (d : Nat) os => HS.out.under (below_regrown wc d os) hgle)
                    have HF5 := Lib.hid (fun (d : Nat) os => HF.out.below (below_regrown wc d os))
                    obtain ⟨bb, hbb⟩ : ∃ bb, hasB ps a t = bb := ⟨_, rfl⟩
                    rw [hbb] at cH1 cH2
                    have HBB := Lib.hid hbb
                    clear f0 f1 HS HF hcx' hbb
                    go_wp2_with fail
                    refine wp_region_quiet_below (by kernel_rfl) (by kernel_rfl) ?_
                    repeat (quiet_step (first | exact cH1 _ _ | exact cH2 _ _))
                    refine wpQuiet_nil ?_
                    intro _ hw'
                    obtain ⟨⟨dq, osq⟩, hw''⟩ := hw'
                    subst hw''
                    have HS5 := Lib.hid (HB5.out dq osq)
                    have HF6 := Lib.hid (HF5.out dq osq)
                    clear cH1 cH2 k0 k1 HB5 HF5
                    generalize Sort.grow (redrawn wc dq) osq = wd at *
                    obtain ⟨f0, f1, -, -, -, -⟩ := HF6.out.cells (a' := 0)
                    cases bb with
                    | true =>
                      obtain ⟨i', hi'⟩ := hasB_nat HBB.out
                      subst hi'
                      have hp := (hasB_iff ps i' t).1 HBB.out
                      have hpl := (List.getElem?_eq_some_iff.1 hp).1
                      have hpe : (ext M ps)[i']? = some (t, true) := by rw [ext_get M ps i' hpl]; exact hp
                      have HTk := Lib.hid (ref_free_yes HS5.out.rp i' t hpe)
                      rw [ext_set M ps i' hpl] at HTk
                      have HPP := Lib.hid hp
                      have HU2 := Lib.hid (HU.out.free i' t hp)
                      clear hp hpl hpe
                      go_wp2_with fail
                      refine HTk.out.mono ?_
                      rintro e w7 ⟨rfl, hRq, hkq⟩
                      obtain ⟨hP7, hB7, hback⟩ := HS5.out.ref hkq hRq hgle
                      have HF7 := Lib.hid (HF6.out.kp hkq)
                      have HTk2 := Lib.hid (pl_free hP7 (by have := HU.out.lens; omega) i' t HPP.out)
                      have HBK := Lib.hid hback
                      clear hRq hkq hP7 hB7 hback HS5 HF6 HTk f0 f1
                      obtain ⟨f0, f1, -, -, -, -⟩ := HF7.out.cells (a' := 0)
                      go_wp2_with fail
                      refine HTk2.out.mono ?_
                      rintro e w8 ⟨rfl, hP8, hk8⟩
                      have HS8 := Lib.hid (HBK.out w8 hP8 hk8)
                      clear hP8 hk8 HBK HF7 HTk2 f0 f1
                      go_wp2_with fail
                      refine (Code_nil _).mono ?_
                      rintro e w9 ⟨rfl, rfl⟩
                      go_wp2_with fail
                      refine (len_calls HS8.out.pl).mono ?_
                      rintro e w10 ⟨rfl, rfl⟩
                      have HTk3 := Lib.hid (ref_len HS8.out.rp (by omega))
                      rw [cn_ext] at HTk3
                      go_wp2_with fail
                      refine HTk3.out.mono ?_
                      rintro e w11 ⟨rfl, rfl⟩
                      go_wp2_with fail
                      go_roundg (60 - (i + 1))
                      case measure => omega
                      case rel => exact ⟨i + 1, v, ps.set i' (t, false), all, by omega, Nat.le_refl _, by go_num, HU2.out.mono (by omega), Lib.hid (by have := HAL.out; omega), HAB.out, HS8.out⟩
                    | false =>
                      have HTk := Lib.hid (ref_free_not HS5.out.rp a t (by rw [hasB_ext]; exact HBB.out))
                      go_wp2_with fail
                      refine HTk.out.mono ?_
                      rintro e w7 ⟨rfl, hb⟩
                      have HS7 := Lib.hid (HS5.out.under hb hgle)
                      have HF7 := Lib.hid (HF6.out.below hb)
                      have HTk2 := Lib.hid (free_not HS7.out.pl (HE.out.below (by rw [← HG.out]; exact HS7.out.below)) (by have := HU.out.lens; omega) a t HAI.out.1 HAI.out.2 HBB.out)
                      clear hb HS5 HF6 HTk f0 f1
                      obtain ⟨f0, f1, -, -, -, -⟩ := HF7.out.cells (a' := 0)
                      go_wp2_with fail
                      refine HTk2.out.mono ?_
                      rintro e w8 ⟨j, rfl, hj, hb⟩
                      have HS8 := Lib.hid (HS7.out.under hb hgle)
                      have HJ8 := Lib.hid hj
                      clear hb hj HS7 HF7 HTk2 f0 f1
                      go_wp2_with fail
                      refine (Code_join j 3 _ (HE.out.below (by rw [← HG.out]; exact HS8.out.below)).et HJ8.out).mono ?_
                      rintro e w9 ⟨rfl, hb⟩
                      have HS9 := Lib.hid (HS8.out.under hb hgle)
                      clear hb HS8 HJ8
                      go_wp2_with fail
                      refine (len_calls HS9.out.pl).mono ?_
                      rintro e w10 ⟨rfl, rfl⟩
                      have HTk3 := Lib.hid (ref_len HS9.out.rp (by omega))
                      rw [cn_ext] at HTk3
                      go_wp2_with fail
                      refine HTk3.out.mono ?_
                      rintro e w11 ⟨rfl, rfl⟩
                      go_wp2_with fail
                      go_roundg (60 - (i + 1))
                      case measure => omega
                      case rel => exact ⟨i + 1, v, ps, all, by omega, Nat.le_refl _, by go_num, HU.out.mono (by omega), Lib.hid (by have := HAL.out; omega), HAB.out, HS9.out⟩
        · by_cases hin1 : i < n
          · have hz1 : (i : Int) < (n : Int) := by omega
            have hz2 : ¬ (i : Int) < 60 := by omega
            clear hin
            go_wp2_with fail
            go_roundg (2 - (q + 1))
            case measure => omega
            case rel => exact ⟨q + 1, _, by omega, Nat.le_refl _, rfl, by go_num, HS.out.below⟩
          · have hz1 : ¬ (i : Int) < (n : Int) := by omega
            clear hin
            go_wp2_with fail
            go_roundg (2 - (q + 1))
            case measure => omega
            case rel => exact ⟨q + 1, _, by omega, Nat.le_refl _, rfl, by go_num, HS.out.below⟩
    · have hz1 : ¬ (q : Int) < 2 := by omega
      go_wp2_with fail
      refine (awake_calls _ (HE.out.below (by rw [← HG.out]; exact HB.out))).mono ?_
      rintro e w2 ⟨rfl, hb⟩
      go_wp2
      go_ret
      exact ⟨rfl, by rw [← HG.out]; exact HB.out.trans (hb.mono (Nat.le_trans hgle HB.out.size))⟩
end Go.Proofs.YtppapffkidkonaaDoor
