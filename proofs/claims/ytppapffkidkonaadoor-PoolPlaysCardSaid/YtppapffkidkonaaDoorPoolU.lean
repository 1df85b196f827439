import Derived.Test.YtppapffkidkonaaDoorPoolT
import Derived.LoopTactic
import Derived.Deep.LoopGhost
import Derived.Deep.QuietTactic
import Derived.BigQuiet
import Derived.Deep.AppendLies
import Derived.Deep.Cut
import Derived.Deep.CutRange
import Derived.Lib.QuietBelow
namespace Go.Proofs.YtppapffkidkonaaDoor
open Go.RowKit
set_option linter.unusedVariables false
set_option linter.unusedSimpArgs false

theorem info_hnd : (Tryd.prog.info? 27).map (fun i => (i.zero, i.size, i.bytes)) = some (some (.agg #[.int .i64 0, .int .i64 0]), 2, 16) := by kernel_rfl
theorem info_bool : (Tryd.prog.info? 4).map (fun i => (i.zero, i.size, i.bytes)) = some (some (.bool false), 1, 1) := by kernel_rfl
theorem and_65535 (n : Int) : bits .and .i64 n 65535 = n % 65536 := and_mask n 16 (by decide)
theorem tm_len (x : Int) (M : Nat) (h : 1 ≤ M) : ∃ a : Nat, (bits .and .i64 x 65535).tmod (M : Int) = (a : Int) ∧ a < M := by
  rw [and_65535, Int.tmod_eq_emod_of_nonneg (by omega)]
  have h1 := Int.emod_nonneg (x % 65536) (b := (M : Int)) (by omega)
  have h2 := Int.emod_lt_of_pos (x % 65536) (b := (M : Int)) (by omega)
  exact ⟨((x % 65536) % (M : Int)).toNat, by omega, by omega⟩

theorem cells_one_new (w : World) (a : Value) (T : TypeId) : ∀ j u, [a][j]? = some u → (w.alloc (.cells #[a] T)).cell? ((⟨w.heap.size, 0, none⟩ : Addr).add j) = some u := by
  intro j u hj
  rcases j with _ | j
  · exact (World.cell?_alloc_at (w := w) #[a] T w.heap.size 0 rfl).trans hj
  · simp at hj

set_option maxHeartbeats 4000000 in
set_option maxRecDepth 100000 in
theorem unlike_calls (w : World) (he : Env w) (m : Int) (A : Option Addr) (cap0 : Nat) (xs : List Int) (hx : ∀ i (hi : i < xs.length), ∃ p : Addr, A = some p ∧ w.cell? (p.add i) = some (.int .i64 xs[i]) ∧ (p.add i).block < w.heap.size) (hxl : xs.length ≤ cap0) (hxm : xs.length < 4611686018427387904) (M : Nat) (hM1 : 1 ≤ M) (hM : bits .and .i64 m 7 + 1 = (M : Int)) (hM8 : M ≤ 8) :
    Calls Tryd.prog 5 #[.int .i64 m, .slice A xs.length cap0] w fun e w' => e = .returned (.bool true) ∧ Below w.heap.size w w' := by
  have HE := Lib.hid he
  have HX := Lib.hid hx
  clear he hx
  obtain ⟨n, hn⟩ : ∃ n, n = xs.length := ⟨_, rfl⟩
  rw [← hn] at hxl hxm ⊢
  have HXN := Lib.hid hn
  clear hn
  obtain ⟨i0, hi, hzz⟩ := Option.map_eq_some_iff.1 info_hnd
  simp only [Prod.mk.injEq] at hzz
  obtain ⟨hz0, hz1, hz2⟩ := hzz
  have HI := Lib.hid (And.intro hi (And.intro hz0 (And.intro hz1 hz2)))
  clear hi hz0 hz1 hz2
  obtain ⟨i1, hi, hzz⟩ := Option.map_eq_some_iff.1 info_bool
  simp only [Prod.mk.injEq] at hzz
  obtain ⟨hz0, hz1, hz2⟩ := hzz
  have HJ := Lib.hid (And.intro hi (And.intro hz0 (And.intro hz1 hz2)))
  clear hi hz0 hz1 hz2
  obtain ⟨g, hg⟩ : ∃ g, g = w.heap.size := ⟨_, rfl⟩
  have HG := Lib.hid hg
  have HN := Lib.hid (new_pl (M : Int) w w.heap.size (Nat.le_refl _))
  rw [← hg] at HN
  clear hg
  have hw : IntKind.i64.wrap (bits .and .i64 m 7 + 1) = (M : Int) := by
    rw [hM, IntKind.wrap_i64]; omega
  go_enter Tryd.func5, Tryd.ntmps5
  go_wp2_with fail
  refine HN.out.mono ?_
  clear HN
  rintro e w1 ⟨rfl, hP, hB, -⟩
  rw [show min (max (M : Int) 0) 10000 = (M : Int) by omega] at hP
  have hgle := Nat.le_of_eq HG.out
  have hLs : Us g w w1 g (M : Int) [] ((0 : Nat) : Int) (.slice none 0 0) (.slice none 0 0) (.slice none 0 0) [] [] :=
    ⟨hP, World.ownsRow_nil _ _ _ _, World.ownsRow_nil _ _ _ _, (fun k e => by cases e), (fun k e => by cases e), hB⟩
  have HL := Lib.hid hLs
  have HUS := Lib.hid (Un.start M)
  clear hP hB hLs hw hM
  have hu := Tryd.underlying27
  go_wp2_with fail
  go_loopg [6, 7, 8, 9] 60 (fun kq v6 v7 v8 v9 wr => ∃ (i : Nat) (v : Value) (ps : List (Int × Bool)) (all : List (Int × Int)) (th : List Bool), i ≤ 60 ∧ 60 - i ≤ kq ∧ v9 = .int .i64 i ∧ v8 = .int .i64 (cn ps : Nat) ∧ Hid (Un M ps all th i) ∧ Hid (Us g w wr g (M : Int) ps (cn ps : Nat) v v6 v7 all th))
  case atStart => exact ⟨0, _, [], [], [], by omega, by omega, rfl, rfl, HUS.out, HL.out⟩
  case round =>
    obtain ⟨i, v, ps, all, th, hi, hiq, rfl, rfl, HU, HS⟩ := hrel
    by_cases hin : i < n ∧ i < 60
    · obtain ⟨hi1, hi2⟩ := hin
      have hz1 : (i : Int) < (n : Int) := by omega
      have hz2 : (i : Int) < 60 := by omega
      have hz0 : (0 : Int) ≤ (i : Int) := by omega
      obtain ⟨px, rfl, hcx, hbx⟩ := HX.out i (by rw [← HXN.out]; exact hi1)
      obtain ⟨x, hxe⟩ : ∃ x, x = xs[i]'(by rw [← HXN.out]; exact hi1) := ⟨_, rfl⟩
      rw [← hxe] at hcx
      have hcx' := ((HS.out.below).cell (p := px.add i) (by rw [HG.out]; exact hbx)).trans hcx
      clear hxe hcx hbx
      obtain ⟨AA, capA, rfl, hcA⟩ := row_form0 HS.out.ra
      obtain ⟨AB, capB, rfl, hcB⟩ := row_form0 HS.out.rb
      obtain ⟨na, hna⟩ : ∃ na, na = all.length := ⟨_, rfl⟩
      obtain ⟨nb, hnb⟩ : ∃ nb, nb = th.length := ⟨_, rfl⟩
      rw [← hna] at HS hcA ⊢
      rw [← hnb] at HS hcB ⊢
      have HNA := Lib.hid hna
      have HNB := Lib.hid hnb
      have hnab : nb = na := by rw [hna, hnb, HU.out.at', List.length_map]
      clear hna hnb
      subst hnab
      go_upto_if 35 with (fail)
      go_cut [10] from 23 to 126 (fun v10 wc => ∃ k : Nat, v10 = .int .i64 k ∧ wc = wr ∧ (k < nb ∨ nb = 0))
      case first =>
        by_cases h0 : 0 < nb
        · have hy : (0 : Int) < (nb : Int) := by omega
          have hy1 : ¬ ((nb : Int) = 0) := by omega
          obtain ⟨k, hk, hkn⟩ := tm_len (x / 2) nb (by omega)
          go_wp2_with fail
          go_meet
          case rel => exact ⟨k, by rw [← hk], rfl, .inl hkn⟩
        · have hy : ¬ (0 : Int) < (nb : Int) := by omega
          go_wp2_with fail
          go_meet
          case rel => exact ⟨0, rfl, rfl, .inr (by omega)⟩
      case rest =>
        obtain ⟨k, rfl, rfl, hk⟩ := hcut
        have HK := Lib.hid hk
        clear hk
        have hcn : (cn ps : Int) ≤ 8 := by have := cn_le ps; have := HU.out.len; omega
        have hcn0 : (0 : Int) ≤ (cn ps : Int) := by omega
        go_upto_if 50 with (fail)
        go_cut [6, 7, 8] from 23 to 126 (fun v6 v7 v8 wc2 => ∃ (v : Value) (ps : List (Int × Bool)) (all : List (Int × Int)) (th : List Bool), v8 = .int .i64 (cn ps : Nat) ∧ Hid (Un M ps all th (i + 1)) ∧ Hid (Us g w wc2 g (M : Int) ps (cn ps : Nat) v v6 v7 all th))
        case first =>
          by_cases hbit : bits .and .i64 x 1 = 1
          · by_cases hfull : lf ps = M
            · have hnm : ¬ ((cn ps : Int) < (M : Int)) := by have := (full_iff ps M HU.out.len).1 hfull; omega
              have HF := Lib.hid (HS.out.full HE.out HG.out (by have := HU.out.len; omega) (by omega))
              go_wp2_with fail
              refine HF.out.mono ?_
              rintro e wa ⟨j, rfl, hj, hS18⟩
              have HS18 := Lib.hid hS18
              clear hj hS18 HF HS hcx'
              go_wp2_with fail
              go_roundg (60 - (i + 1))
              case measure => omega
              case rel => exact ⟨i + 1, v, ps, all, th, by omega, Nat.le_refl _, by go_num, rfl, HU.out.mono (by omega), by
                have := HS18.out.under (wr' := wa.alloc (.cells #[.int .i64 0, .int .i64 0] 27)) ((Below.refl _ _).alloc (Nat.le_refl _) _) (by have := HS18.out.below.size; omega)
                exact this⟩
            · have hnm : (cn ps : Int) < (M : Int) := by
                have h1 := full_iff ps M HU.out.len
                have : ¬ ¬ cn ps < M := fun h => hfull (h1.2 h)
                omega
              have hT := HU.out.tkT
              have HF := Lib.hid (HS.out.take hgle (by have := HU.out.len; omega) (by have := HU.out.len; omega) (by omega) (by omega) (by omega) (fun p hp => by have := HU.out.tb p hp; omega))
              go_wp2_with fail
              refine HF.out.mono ?_
              rintro e w2 ⟨rfl, v', hS2⟩
              obtain ⟨T, hT'⟩ : ∃ T, T = tkT ps := ⟨_, rfl⟩
              obtain ⟨L, hL'⟩ : ∃ L, L = lf ps := ⟨_, rfl⟩
              have HFR : Hid (((L : Int), T) ∉ all) := Lib.hid (by rw [hT', hL']; exact HU.out.fresh)
              have HU2 : Hid (Un M (tk ps) (all ++ [((L : Int), T)]) (th ++ [true]) (i + 1)) := Lib.hid (by rw [hT', hL']; exact HU.out.take hfull)
              have HCT := Lib.hid (cn_tk ps)
              rw [← hT', ← hL']
              obtain ⟨w3, e3⟩ : ∃ w3, w2.alloc (.cells #[.int .i64 (L : Int), .int .i64 T] 27) = w3 := ⟨_, rfl⟩
              have hb : Below w2.heap.size w2 w3 := by rw [← e3]; exact (Below.refl _ _).alloc (Nat.le_refl _) _
              have HS3 := Lib.hid (hS2.under hb (by have := hS2.below.size; omega))
              obtain ⟨G, hGs⟩ : ∃ G, w2.heap.size = G := ⟨_, rfl⟩
              have hR : w3.heap[G]? = some (.cells #[.int .i64 (L : Int), .int .i64 T] 27 (0, 0)) := by rw [← e3, ← hGs]; show (w2.heap.push _)[w2.heap.size]? = _; exact Array.getElem?_push_size
              have HR3 := Lib.hid hR
              clear hb hR HF HS hS2 hcx' hT' hL' hT hfull
              go_wp2_with fail
              clear hGs e3
              go_loopg [13] nb (fun kq v13 wr => ∃ (j : Nat), j ≤ nb ∧ nb - j ≤ kq ∧ v13 = .int .i64 (j : Nat) ∧ Hid (wr.heap[G]? = some (.cells #[.int .i64 (L : Int), .int .i64 T] 27 (0, 0))) ∧ Hid (Us g w wr g (M : Int) (tk ps) ((cn ps : Nat) + 1) v' (.slice AA nb capA) (.slice AB nb capB) all th))
              case atStart => exact ⟨0, by omega, by omega, rfl, HR3.out, HS3.out⟩
              case round =>
                obtain ⟨j, hj, hjq, rfl, HR, HS⟩ := hrel
                have y0 : wr.cell? ⟨G, 0, none⟩ = some (.int .i64 (L : Int)) := by simp [World.cell?, HR.out]
                have y1 : wr.cell? ⟨G, 1, none⟩ = some (.int .i64 T) := by simp [World.cell?, HR.out]
                by_cases hjn : j < nb
                · have hz3 : (j : Int) < (nb : Int) := by omega
                  have hz4 : (0 : Int) ≤ (j : Int) := by omega
                  have hz5 : (j : Int) < 60 := by have := HU.out.al; have := HNA.out; omega
                  have hja : j < all.length := by rw [← HNA.out]; exact hjn
                  obtain ⟨ra, hAA, -, -⟩ := row_form1 HS.out.ra (by omega)
                  subst hAA
                  obtain ⟨c0, c1⟩ := HS.out.cellsA HNA.out j hja
                  have hne : ¬ (all[j].1 = (L : Int) ∧ all[j].2 = T) := fun e => HFR.out (by
                    have h1 := List.getElem_mem hja
                    have h2 : all[j] = ((L : Int), T) := Prod.ext e.1 e.2
                    rw [h2] at h1; exact h1)
                  generalize all[j] = q at *
                  obtain ⟨q1, q2⟩ := q
                  simp only at c0 c1 hne
                  by_cases hq : q1 = (L : Int)
                  · have hq2 : (q2 == T) = false := beq_eq_false_iff_ne.2 (fun e => hne ⟨hq, e⟩)
                    subst hq
                    clear hne
                    go_wp2_with fail
                    go_quiet (fail)
                    go_wp2_with fail
                    have HS5 := Lib.hid (HS.out.under (⟨rfl, rfl, rfl, Nat.le_refl _, fun _ _ => rfl⟩ : Below wr.heap.size wr (wr.drewN nq)) (Nat.le_trans hgle HS.out.below.size))
                    go_roundg (nb - (j + 1))
                    case measure => omega
                    case rel =>
                      exact ⟨j + 1, by omega, Nat.le_refl _, by go_num, HR.out, HS5.out⟩
                  · have hq1 : (q1 == (L : Int)) = false := beq_eq_false_iff_ne.2 hq
                    clear hne hq
                    go_wp2_with fail
                    go_quiet (fail)
                    go_wp2_with fail
                    have HS5 := Lib.hid (HS.out.under (⟨rfl, rfl, rfl, Nat.le_refl _, fun _ _ => rfl⟩ : Below wr.heap.size wr (wr.drewN nq)) (Nat.le_trans hgle HS.out.below.size))
                    go_roundg (nb - (j + 1))
                    case measure => omega
                    case rel =>
                      exact ⟨j + 1, by omega, Nat.le_refl _, by go_num, HR.out, HS5.out⟩
                · have hz3 : ¬ (j : Int) < (nb : Int) := by omega
                  have HRA : Hid (wr.ownsRow g 27 2 (.slice AA nb capA) nb (pC all)) := Lib.hid (by have := HS.out.ra; rwa [← HNA.out] at this)
                  have HBW := Lib.hid (Nat.le_trans hgle HS.out.below.size)
                  have hnb60 : nb ≤ 60 := by have := HU.out.al; have := HNA.out; omega
                  have HB60 := Lib.hid hnb60
                  clear hnb60
                  obtain ⟨n1, hn1⟩ : ∃ n1, n1 = nb + 1 := ⟨_, rfl⟩
                  go_wp2_with (first
                    | (at_builtin; refine wpList_append_lies _ rfl (.tmp 76) (.tmp 78) 25 rfl g 27 i0 (.agg #[.int .i64 0, .int .i64 0]) 2 16 Tryd.underlying25 HI.out.1 HI.out.2.1 HI.out.2.2.1 HI.out.2.2.2 rfl (by decide) (.slice AA nb capA) nb (pC all) rfl (HRA.out.alloc _) ⟨wr.heap.size, 0, none⟩ 1 1 [.int .i64 (L : Int), .int .i64 T] rfl rfl ?aN ?aO (by decide) ?a63 ?aY ?aB (wr.heap.size + 1) ?aH ?_; (case aN => exact cells_two_new _ _ _ _); (case aO => simp [Value.oneCell']); (case a63 => have := HB60.out; unfold maxLen; omega); (case aY => have := HB60.out; omega); (case aB => have := HBW.out; simp; omega); (case aH => simp); intro r cap wA hown hgrow hat hlt1; have HS4 := Lib.hid (HS.out.grownA HBW.out (p := ((L : Int), T)) HNA.out hown hgrow hat); clear hown hgrow hat hlt1 y0 y1 HRA HBW HS; have HRB : Hid (wA.ownsRow g 4 1 (.slice AB nb capB) nb (bC th)) := Lib.hid (by have := HS4.out.rb; rwa [← HNB.out] at this); have HBA := Lib.hid (Nat.le_trans hgle HS4.out.below.size))
                    | (at_builtin; refine wpList_append_lies _ rfl (.tmp 80) (.tmp 81) 46 rfl g 4 i1 (.bool false) 1 1 Tryd.underlying46 HJ.out.1 HJ.out.2.1 HJ.out.2.2.1 HJ.out.2.2.2 rfl (by decide) (.slice AB nb capB) nb (bC th) rfl (HRB.out.alloc _) ⟨wA.heap.size, 0, none⟩ 1 1 [.bool true] rfl rfl ?bN ?bO (by decide) ?b63 ?bY ?bB (wA.heap.size + 1) ?bH ?_; (case bN => exact cells_one_new _ _ _); (case bO => simp [Value.oneCell']); (case b63 => have := HB60.out; unfold maxLen; omega); (case bY => have := HB60.out; omega); (case bB => have := HBA.out; simp; omega); (case bH => simp); intro rb capb wB hownb hgrowb hatb hlt2; have HS6 := Lib.hid (HS4.out.grownB HBA.out HNB.out hownb hgrowb hatb); clear hownb hgrowb hatb hlt2 HRB HBA HS4))
                  go_meet
                  case rel =>
                    have hq : ((cn (tk ps) : Nat) : Int) = (cn ps : Nat) + 1 := by rw [HCT.out]; rfl
                    exact ⟨v', tk ps, all ++ [((L : Int), T)], th ++ [true], by rw [hq], HU2.out, by rw [hq]; exact HS6.out⟩
          · by_cases h0 : 0 < nb
            · have hy : (0 : Int) < (nb : Int) := by omega
              have hkn : k < nb := by have := HK.out; omega
              have hkA : k < all.length := by rw [← HNA.out]; exact hkn
              have hkB : k < th.length := by rw [← HNB.out]; exact hkn
              have hk1 : (k : Int) < (nb : Int) := by omega
              have hk0 : (0 : Int) ≤ (k : Int) := by omega
              obtain ⟨ra, hAA, -, -⟩ := row_form1 HS.out.ra (by omega)
              subst hAA
              obtain ⟨rb, hBB, -, -⟩ := row_form1 HS.out.rb (by omega)
              subst hBB
              obtain ⟨c0, c1⟩ := HS.out.cellsA HNA.out k hkA
              obtain ⟨i', t0, b0, e1, e2, e3, e4⟩ := HU.out.le _ (List.getElem_mem hkA)
              have hall : all[k]? = some all[k] := List.getElem?_eq_getElem hkA
              have hthk : th[k]? = some (hasB ps all[k].1 all[k].2) := by rw [HU.out.at', List.getElem?_map, hall]; rfl
              generalize all[k] = q at *
              obtain ⟨q1, t⟩ := q
              simp only at c0 c1 e1 e3 e4 hthk
              subst e1
              have hi8 : i' < 8 := by have := (List.getElem?_eq_some_iff.1 e2).1; have := HU.out.len; omega
              cases hb : hasB ps (i' : Int) t with
              | true =>
                have hp := (hasB_iff ps i' t).1 hb
                rw [hb] at hthk
                have HF := Lib.hid (HS.out.free hgle (by have := HU.out.len; omega) (by omega) (by omega) i' t hp)
                have HU2 := Lib.hid (HU.out.free i' t hall hp)
                have HTH := Lib.hid hthk
                have hcs := cn_set ps i' (List.getElem?_eq_some_iff.1 hp).1 (t, false)
                rw [(List.getElem?_eq_some_iff.1 hp).2] at hcs
                have HCS := Lib.hid hcs
                clear hall hthk hp hb e2 e3 e4 hcs HS hcx' hi8
                go_wp2_with fail
                refine HF.out.mono ?_
                rintro e w6 ⟨rfl, hS6⟩
                obtain ⟨d0, d1⟩ := hS6.cellsB HNB.out k hkB
                rw [(List.getElem?_eq_some_iff.1 HTH.out).2] at d0
                have HS6 := Lib.hid hS6
                clear hS6 HF c0 c1
                go_wp2_with fail
                go_quiet (fail)
                have HS7 := Lib.hid (HS6.out.under (⟨rfl, rfl, rfl, Nat.le_refl _, fun _ _ => rfl⟩ : Below w6.heap.size w6 (w6.drewN nq)) (Nat.le_trans hgle HS6.out.below.size))
                clear HS6 d0 d1
                generalize w6.drewN nq = wd at *
                obtain ⟨d0, d1⟩ := HS7.out.cellsB HNB.out k hkB
                rw [(List.getElem?_eq_some_iff.1 HTH.out).2] at d0
                obtain ⟨w8, e8⟩ : ∃ w8, wd.setCell ⟨rb, k, none⟩ (.bool false) = w8 := ⟨_, rfl⟩
                have HS8 := Lib.hid (HS7.out.setB HNB.out k false hgle)
                rw [e8] at HS8
                go_wp2_with fail
                go_meet
                case rel =>
                  have hq : ((cn (ps.set i' (t, false)) : Nat) : Int) = (cn ps : Nat) - 1 := by have h1 := HCS.out; simp at h1; omega
                  exact ⟨v, ps.set i' (t, false), all, th.set k false, by rw [hq], HU2.out.mono (by omega), by rw [hq]; have := HS8.out; exact this⟩
              | false =>
                rw [hb] at hthk
                have HF := Lib.hid (HS.out.refuse HE.out HG.out (by have := HU.out.len; omega) (i' : Int) t (by omega) (by omega) hb)
                have HU2 := Lib.hid (HU.out.same hthk)
                have HTH := Lib.hid hthk
                clear hall hthk hb e2 e3 e4 HS hcx' hi8
                go_wp2_with fail
                refine HF.out.mono ?_
                rintro e w6 ⟨jj, rfl, -, hS6⟩
                obtain ⟨d0, d1⟩ := hS6.cellsB HNB.out k hkB
                rw [(List.getElem?_eq_some_iff.1 HTH.out).2] at d0
                have HS6 := Lib.hid hS6
                clear hS6 HF c0 c1
                go_wp2_with fail
                go_quiet (fail)
                have HS7 := Lib.hid (HS6.out.under (⟨rfl, rfl, rfl, Nat.le_refl _, fun _ _ => rfl⟩ : Below w6.heap.size w6 (w6.drewN nq)) (Nat.le_trans hgle HS6.out.below.size))
                clear HS6 d0 d1
                generalize w6.drewN nq = wd at *
                obtain ⟨d0, d1⟩ := HS7.out.cellsB HNB.out k hkB
                rw [(List.getElem?_eq_some_iff.1 HTH.out).2] at d0
                obtain ⟨w8, e8⟩ : ∃ w8, wd.setCell ⟨rb, k, none⟩ (.bool false) = w8 := ⟨_, rfl⟩
                have HS8 := Lib.hid (HS7.out.setB HNB.out k false hgle)
                rw [e8] at HS8
                go_wp2_with fail
                go_meet
                case rel => exact ⟨v, ps, all, th.set k false, rfl, HU2.out.mono (by omega), HS8.out⟩
            · have hy : ¬ (0 : Int) < (nb : Int) := by omega
              clear hcx'
              go_wp2_with fail
              go_meet
              case rel => exact ⟨v, ps, all, th, rfl, HU.out.mono (by omega), HS.out⟩
        case rest =>
          obtain ⟨v, ps, all, th, rfl, HU, HS⟩ := hcut
          obtain ⟨AA, capA, rfl, hcA⟩ := row_form0 HS.out.ra
          obtain ⟨AB, capB, rfl, hcB⟩ := row_form0 HS.out.rb
          obtain ⟨na, hna⟩ : ∃ na, na = all.length := ⟨_, rfl⟩
          obtain ⟨nb, hnb⟩ : ∃ nb, nb = th.length := ⟨_, rfl⟩
          rw [← hna] at HS hcA ⊢
          rw [← hnb] at HS hcB ⊢
          have HNA := Lib.hid hna
          have HNB := Lib.hid hnb
          have hnab : nb = na := by rw [hna, hnb, HU.out.at', List.length_map]
          clear hna hnb
          subst hnab
          have hnb60 : nb ≤ 60 := by have := HU.out.al; have := HNA.out; omega
          have hgB : g ≤ wc.heap.size := Nat.le_trans hgle HS.out.below.size
          go_wp2_with fail
          go_loopg [15] nb (fun kq v15 wr => ∃ (j : Nat), j ≤ nb ∧ nb - j ≤ kq ∧ v15 = .int .i64 (j : Nat) ∧ Hid (Us g w wr g (M : Int) ps (cn ps : Nat) v (.slice AA nb capA) (.slice AB nb capB) all th))
          case atStart => exact ⟨0, by omega, by omega, rfl, HS.out⟩
          case round =>
            obtain ⟨j, hj, hjq, rfl, HS⟩ := hrel
            by_cases hjn : j < nb
            · have hz3 : (j : Int) < (nb : Int) := by omega
              have hz4 : (0 : Int) ≤ (j : Int) := by omega
              have hz5 : (j : Int) < 60 := by omega
              have hja : j < all.length := by rw [← HNA.out]; exact hjn
              have hjb : j < th.length := by rw [← HNB.out]; exact hjn
              obtain ⟨ra, hAA, -, -⟩ := row_form1 HS.out.ra (by omega)
              subst hAA
              obtain ⟨rb, hBB, -, -⟩ := row_form1 HS.out.rb (by omega)
              subst hBB
              obtain ⟨c0, c1⟩ := HS.out.cellsA HNA.out j hja
              obtain ⟨d0, -⟩ := HS.out.cellsB HNB.out j hjb
              have hthk : th[j] = hasB ps all[j].1 all[j].2 := by
                have h1 : th[j]? = some (hasB ps all[j].1 all[j].2) := by rw [HU.out.at', List.getElem?_map, List.getElem?_eq_getElem hja]; rfl
                exact (List.getElem?_eq_some_iff.1 h1).2
              rw [hthk] at d0
              clear hthk
              generalize all[j] = q at *
              obtain ⟨q1, q2⟩ := q
              simp only at c0 c1 d0
              have cH : ∀ d os, Calls Tryd.prog 14 #[.pointer (some ⟨g, 0, none⟩), .agg #[.int .i64 q1, .int .i64 q2]] (Sort.grow (redrawn wr d) os) fun e w'' => e = .returned (.bool (hasB ps q1 q2)) ∧ ∃ p : Regrown, w'' = Sort.grow (redrawn wr p.d) p.os := fun d os => Calls.regrown_of ((has_calls (HS.out.pl.below (below_regrown wr d os)) (by have := HU.out.len; omega) q1 q2))
              have k0 := cell_regrown c0
              have k1 := cell_regrown c1
              have k2 := cell_regrown d0
              have HB := Lib.hid (fun (d : Nat) os => HS.out.under (below_regrown wr d os) (Nat.le_trans hgle HS.out.below.size))
              generalize hasB ps q1 q2 = bb at *
              clear c0 c1 d0 HS
              go_wp2_with fail
              refine wp_region_quiet_below (by kernel_rfl) (by kernel_rfl) ?_
              repeat (quiet_step (first | exact cH _ _))
              refine wpQuiet_nil ?_
              intro _ hw'
              obtain ⟨⟨dq, osq⟩, hw''⟩ := hw'
              subst hw''
              have HS5 := Lib.hid (HB.out dq osq)
              clear cH k0 k1 k2 HB
              generalize Sort.grow (redrawn wr dq) osq = wd at *
              go_wp2_with fail
              go_roundg (nb - (j + 1))
              case measure => omega
              case rel => exact ⟨j + 1, by omega, Nat.le_refl _, by go_num, HS5.out⟩
            · have hz3 : ¬ (j : Int) < (nb : Int) := by omega
              go_wp2_with fail
              go_roundg (60 - (i + 1))
              case measure => omega
              case rel => exact ⟨i + 1, v, ps, all, th, by omega, Nat.le_refl _, by go_num, rfl, HU.out, HS.out⟩
    · have HEX := Lib.hid (HE.out.below (by rw [← HG.out]; exact HS.out.below))
      have HLE := Lib.hid (len_calls HS.out.pl)
      by_cases hin1 : i < n
      · have hz1 : (i : Int) < (n : Int) := by omega
        have hz2 : ¬ (i : Int) < 60 := by omega
        clear hin
        go_wp2_with fail
        refine HLE.out.mono ?_
        rintro e w21 ⟨rfl, rfl⟩
        go_wp2_with fail
        refine (awake_calls _ HEX.out).mono ?_
        rintro e w2 ⟨rfl, hb⟩
        go_wp2
        go_ret
        exact ⟨rfl, by rw [← HG.out]; exact HS.out.below.trans (hb.mono (Nat.le_trans hgle HS.out.below.size))⟩
      · have hz1 : ¬ (i : Int) < (n : Int) := by omega
        clear hin
        go_wp2_with fail
        refine HLE.out.mono ?_
        rintro e w21 ⟨rfl, rfl⟩
        go_wp2_with fail
        refine (awake_calls _ HEX.out).mono ?_
        rintro e w2 ⟨rfl, hb⟩
        go_wp2
        go_ret
        exact ⟨rfl, by rw [← HG.out]; exact HS.out.below.trans (hb.mono (Nat.le_trans hgle HS.out.below.size))⟩
end Go.Proofs.YtppapffkidkonaaDoor
