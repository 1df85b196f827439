import Derived.Test.YtppapffkidkonaaDoorPoolP
import Derived.LoopTactic
import Derived.Deep.LoopGhost
import Derived.Deep.QuietTactic
import Derived.BigQuiet
import Derived.Deep.AppendLies
namespace Go.Proofs.YtppapffkidkonaaDoor
open Go.RowKit
set_option linter.unusedVariables false
set_option linter.unusedSimpArgs false

theorem info_handle : (Tryd.prog.info? 27).map (fun i => (i.zero, i.size, i.bytes)) = some (some (.agg #[.int .i64 0, .int .i64 0]), 2, 16) := by kernel_rfl

theorem tk1 {B : Nat} {w : World} {g k M : Nat} {v : Value} (h : Pl B w g v (M : Int) (List.replicate k (1, true)) (k : Int)) (hk : k < M) (hM : M ≤ 8) :
    Calls Tryd.prog 7 #[.pointer (some ⟨g, 0, none⟩)] w fun e w' => e = .returned (.tuple #[.agg #[.int .i64 (k : Nat), .int .i64 1], .nilIface]) ∧ ∃ v', (∀ k, v'.ownBlock = some k → v.ownBlock = some k ∨ w.heap.size ≤ k) ∧ Pl B w' g v' (M : Int) (List.replicate (k + 1) (1, true)) ((k + 1 : Nat) : Int) ∧ Kp w w' (fun k => k = g ∨ v.ownBlock = some k) := by
  have e0 : (List.replicate k ((1 : Int), true)).length = k := List.length_replicate
  refine (take_new h (by rw [e0]; omega) (by omega) (by omega) (by rw [lf_all]; omega) (by rw [lf_all, e0])).mono ?_
  rw [e0, ← List.replicate_succ']
  rintro e w' ⟨he, r, cap, hr, hP, hk⟩
  exact ⟨he, _, fun k e => by
    have e : r = k := Option.some.inj e
    rw [← e]; exact hr, hP, hk⟩

set_option maxHeartbeats 4000000 in
set_option maxRecDepth 100000 in
theorem least_calls (w : World) (he : Env w) (m : Int) (A : Option Addr) (cap0 : Nat) (xs : List Int) (hx : ∀ i (hi : i < xs.length), ∃ p : Addr, A = some p ∧ w.cell? (p.add i) = some (.int .i64 xs[i]) ∧ (p.add i).block < w.heap.size) (hxl : xs.length ≤ cap0) (hxm : xs.length < 4611686018427387904) (M : Nat) (hM1 : 1 ≤ M) (hM : bits .and .i64 m 7 + 1 = (M : Int)) (hM8 : M ≤ 8) :
    Calls Tryd.prog 3 #[.int .i64 m, .slice A xs.length cap0] w fun e w' => e = .returned (.bool true) ∧ Below w.heap.size w w' := by
  have HE := Lib.hid he
  have HX := Lib.hid hx
  clear he hx
  obtain ⟨n, hn⟩ : ∃ n, n = xs.length := ⟨_, rfl⟩
  rw [← hn] at hxl hxm ⊢
  have HXN := Lib.hid hn
  clear hn
  obtain ⟨i0, hi, hzz⟩ := Option.map_eq_some_iff.1 info_handle
  simp only [Prod.mk.injEq] at hzz
  obtain ⟨hz0, hz1, hz2⟩ := hzz
  have HI := Lib.hid (And.intro hi (And.intro hz0 (And.intro hz1 hz2)))
  clear hi hz0 hz1 hz2
  obtain ⟨g, hg⟩ : ∃ g, g = w.heap.size := ⟨_, rfl⟩
  have HG := Lib.hid hg
  have HN := Lib.hid (new_pl (M : Int) w w.heap.size (Nat.le_refl _))
  rw [← hg] at HN
  clear hg
  have hw : IntKind.i64.wrap (bits .and .i64 m 7 + 1) = (M : Int) := by
    rw [hM, IntKind.wrap_i64]; omega
  go_enter Tryd.func3, Tryd.ntmps3
  go_wp2_with fail
  refine HN.out.mono ?_
  clear HN
  rintro e w1 ⟨rfl, hP, hB, -⟩
  rw [show min (max (M : Int) 0) 10000 = (M : Int) by omega] at hP
  have hgle := Nat.le_of_eq HG.out
  have hLs : Ls g w w1 g (M : Int) (List.replicate 0 (1, true)) ((0 : Nat) : Int) (.slice none 0 0) (.slice none 0 0) (List.replicate 0 1) :=
    ⟨hP, World.ownsRow_nil _ _ _ _, (fun k e => by cases e), hB⟩
  have HL := Lib.hid hLs
  clear hP hB hLs hw hM
  have hu := Tryd.underlying27
  go_wp2_with fail
  go_loopg [6, 7] M (fun kq v6 v7 wr => ∃ (k : Nat) (v : Value), k ≤ M ∧ M - k ≤ kq ∧ v7 = .int .i64 k ∧ Hid (Ls g w wr g (M : Int) (List.replicate k (1, true)) (k : Int) v v6 (List.replicate k 1)))
  case atStart => exact ⟨0, _, Nat.zero_le _, by omega, rfl, HL.out⟩
  case round =>
    obtain ⟨k, v, hk, hkq, rfl, HS⟩ := hrel
    by_cases hlt : k < M
    · have hz : (k : Int) < (M : Int) := by omega
      go_wp2_with fail
      refine (tk1 HS.out.pl hlt hM8).mono ?_
      rintro e w2 ⟨rfl, v', hv', hP', hk'⟩
      have HS2 := Lib.hid (HS.out.pool hv' hP' hk' hgle)
      clear hv' hP' hk' HS
      obtain ⟨w3, e3⟩ : ∃ w3, w2.alloc (.cells #[.int .i64 k, .int .i64 1] 27) = w3 := ⟨_, rfl⟩
      have hb : Below w2.heap.size w2 w3 := by rw [← e3]; exact (Below.refl _ _).alloc (Nat.le_refl _) _
      have HS3 := Lib.hid (HS2.out.under hb (by have := HS2.out.below.size; omega))
      have hR : w3.heap[w2.heap.size]? = some (.cells #[.int .i64 k, .int .i64 1] 27 (0, 0)) := by rw [← e3]; show (w2.heap.push _)[w2.heap.size]? = _; exact Array.getElem?_push_size
      have x0 : w3.cell? ⟨w2.heap.size, 0, none⟩ = some (.int .i64 k) := by simp [World.cell?, hR]
      have x1 : w3.cell? ⟨w2.heap.size, 1, none⟩ = some (.int .i64 1) := by simp [World.cell?, hR]
      have HRow : Hid (w3.ownsRow g 27 2 u6 k (hC 0 (List.replicate k 1))) := Lib.hid (by have := HS3.out.row; rwa [List.length_replicate] at this)
      have HBW := Lib.hid (Nat.le_trans hgle HS3.out.below.size)
      clear hb hR HS2
      go_wp2_with (at_builtin; refine wpList_append_lies _ rfl (.tmp 44) (.tmp 46) 25 rfl g 27 i0 (.agg #[.int .i64 0, .int .i64 0]) 2 16 Tryd.underlying25 HI.out.1 HI.out.2.1 HI.out.2.2.1 HI.out.2.2.2 rfl (by decide) u6 k (hC 0 (List.replicate k 1)) rfl (HRow.out.alloc _) ⟨w3.heap.size, 0, none⟩ 1 1 [.int .i64 k, .int .i64 1] rfl rfl ?aN ?aO (by decide) ?a63 ?aY ?aB (w3.heap.size + 1) ?aH ?_; (case aN => exact cells_two_new _ _ _ _); (case aO => simp [Value.oneCell']); (case a63 => unfold maxLen; omega); (case aY => omega); (case aB => have := HBW.out; simp; omega); (case aH => simp); intro r cap wA hown hgrow hat hlt1; have HS4 := Lib.hid (HS3.out.grown HBW.out (n := k) (t := 1) List.length_replicate.symm hown hgrow hat); clear hown hgrow hat hlt1 x0 x1 e3 HRow HBW HS3)
      go_roundg (M - (k + 1))
      case measure => omega
      case rel => exact ⟨k + 1, _, by omega, Nat.le_refl _, by go_num, by have := HS4.out; rw [← List.replicate_succ'] at this; exact this⟩
    · have hkM : k = M := by omega
      have HS1 : Hid (Ls g w wr g (M : Int) (aP (List.replicate M (1 : Int))) (M : Int) v u6 (List.replicate M 1)) := Lib.hid (by
        unfold aP; rw [List.map_replicate]; have := HS.out; rw [hkM] at this; exact this)
      obtain ⟨ra, capA, hU, hcA⟩ := HS1.out.form (n := M) List.length_replicate.symm (by omega)
      subst hU
      have hz : ¬ (k : Int) < (M : Int) := by omega
      clear HS
      go_wp2_with fail
      go_loopg [10] 20 (fun kq v10 wr => ∃ (i : Nat) (v : Value) (ts : List Int), i ≤ 20 ∧ 20 - i ≤ kq ∧ v10 = .int .i64 i ∧ Hid (ts.length = M) ∧ Hid (∀ t ∈ ts, 1 ≤ t ∧ t ≤ 1 + (i : Int)) ∧ Hid (Ls g w wr g (M : Int) (aP ts) (M : Int) v (.slice (some ⟨ra, 0, none⟩) M capA) ts))
      case atStart => exact ⟨0, v, List.replicate M 1, by omega, by omega, rfl, List.length_replicate, (fun t ht => by rw [List.eq_of_mem_replicate ht]; omega), HS1.out⟩
      case round =>
        obtain ⟨i, v, ts, hi, hiq, rfl, HTL, HTB, HS⟩ := hrel
        by_cases hin : i < n ∧ i < 20
        · obtain ⟨hi1, hi2⟩ := hin
          have hz1 : (i : Int) < (n : Int) := by omega
          have hz2 : (i : Int) < 20 := by omega
          have hz0 : (0 : Int) ≤ (i : Int) := by omega
          obtain ⟨px, rfl, hcx, hbx⟩ := HX.out i (by rw [← HXN.out]; exact hi1)
          obtain ⟨x, hxe⟩ : ∃ x, x = xs[i]'(by rw [← HXN.out]; exact hi1) := ⟨_, rfl⟩
          rw [← hxe] at hcx
          have hcx' := ((HS.out.below).cell (p := px.add i) (by rw [HG.out]; exact hbx)).trans hcx
          have hM0 : ¬ (M : Int) = 0 := by omega
          go_wp2_with fail
          go_quiet (fail)
          obtain ⟨a, ha, haM⟩ := tm_nat (xs[i]'(by rw [← HXN.out]; exact hi1)) M hM1
          obtain ⟨b, hb, hbM⟩ := tm_nat ((xs[i]'(by rw [← HXN.out]; exact hi1)) / 256) M hM1
          rw [ha, hb]
          clear ha hb hcx hcx' hxe hz1 hz2 hz0
          have HS5 := Lib.hid (HS.out.under (⟨rfl, rfl, rfl, Nat.le_refl _, fun _ _ => rfl⟩ : Below wr.heap.size wr (wr.drewN nq)) (Nat.le_trans hgle HS.out.below.size))
          generalize wr.drewN nq = wd at *
          have hab : ∃ lo hi : Nat, lo ≤ hi ∧ hi < M ∧ ((a ≤ b ∧ lo = a ∧ hi = b) ∨ (b < a ∧ lo = b ∧ hi = a)) := by
            rcases Nat.lt_or_ge b a with h | h
            · exact ⟨b, a, by omega, haM, .inr ⟨h, rfl, rfl⟩⟩
            · exact ⟨a, b, h, hbM, .inl ⟨h, rfl, rfl⟩⟩
          obtain ⟨lo, hi', hlh, hhM, hab⟩ := hab
          rcases hab with ⟨hab, rfl, rfl⟩ | ⟨hab, rfl, rfl⟩
          · have hzz : ¬ ((hi' : Int) < (lo : Int)) := by omega
            have HAB := Lib.hid hab
            clear hab
            have htl : ts.length = M := HTL.out
            have hbd : ∀ k (hk : k < ts.length), 1 ≤ ts[k] ∧ ts[k] ≤ 1 + (i : Int) := fun k hk => HTB.out _ (List.getElem_mem hk)
            have hpl : (aP ts).length = M := by rw [aP_length]; exact htl
            obtain ⟨y0, y1, _, _⟩ := HS5.out.cells htl.symm hi' (by omega)
            obtain ⟨th, hth⟩ : ∃ th, ts[hi']? = some th := ⟨_, List.getElem?_eq_getElem (by omega)⟩
            have hth' := (List.getElem?_eq_some_iff.1 hth).2
            rw [hth'] at y1
            have HF := Lib.hid (HS5.out.free hgle (by omega) (by omega) (by omega) hi' th (by omega) (by rw [aP_get, hth']))
            have HTH := Lib.hid hth
            have HPL := Lib.hid hpl
            have HBD := Lib.hid hbd
            have hM1' : (hi' : Int) < (M : Int) := by omega
            have hl1' : (lo : Int) < (M : Int) := by omega
            have hl0 : (0 : Int) ≤ (lo : Int) := by omega
            have hh0 : (0 : Int) ≤ (hi' : Int) := by omega
            clear hth' hth hpl hbd htl
            have HLH := Lib.hid hlh
            clear hlh
            go_wp2_with fail
            refine HF.out.mono ?_
            rintro e w6 ⟨rfl, hS6⟩
            have HS6 := Lib.hid hS6
            clear hS6 HF HS5 y0 y1
            by_cases hne : lo = hi'
            · subst hne
              have hnez : (lo : Int) = (lo : Int) := rfl
              have htlen : ts.length = M := HTL.out
              have hth2 : 1 ≤ th ∧ th ≤ 1 + (i : Int) := HTB.out _ (List.mem_of_getElem? HTH.out)
              obtain ⟨y0, y1, _, _⟩ := HS6.out.cells htlen.symm lo (by omega)
              rw [(List.getElem?_eq_some_iff.1 HTH.out).2] at y1
              have HF := Lib.hid (HS6.out.refuse HE.out HG.out (by rw [List.length_set, aP_length]; omega) (lo : Int) th (by omega) (by omega) (by
                unfold hasB
                rw [List.getD_eq_getElem?_getD, Int.toNat_natCast, List.getElem?_set_self (by rw [aP_length]; omega)]
                simp))
              clear htlen
              go_wp2_with fail
              refine HF.out.mono ?_
              rintro e w8 ⟨j, rfl, hS8⟩
              have HS8 := Lib.hid hS8
              clear hS8 HF HS6 y0 y1
              have htlen : ts.length = M := HTL.out
              have HF := Lib.hid (HS8.out.take hgle (by rw [List.length_set, aP_length]; omega) (by omega) (by omega) lo th (lf_one ts lo th (by omega)) (by omega) (by rw [List.length_set, aP_length]; omega) (by rw [List.getElem_set_self]) (by omega))
              clear htlen
              go_wp2_with fail
              refine HF.out.mono ?_
              rintro e w13 ⟨rfl, hS9⟩
              rw [List.set_set, aP_set] at hS9
              obtain ⟨w14, e14⟩ : ∃ w14, w13.alloc (.cells #[.int .i64 lo, .int .i64 (th + 1)] 27) = w14 := ⟨_, rfl⟩
              have hb : Below w13.heap.size w13 w14 := by rw [← e14]; exact (Below.refl _ _).alloc (Nat.le_refl _) _
              have HS14 := Lib.hid (hS9.under hb (by have := hS9.below.size; omega))
              have hR : w14.heap[w13.heap.size]? = some (.cells #[.int .i64 lo, .int .i64 (th + 1)] 27 (0, 0)) := by rw [← e14]; show (w13.heap.push _)[w13.heap.size]? = _; exact Array.getElem?_push_size
              have x0 : w14.cell? ⟨w13.heap.size, 0, none⟩ = some (.int .i64 lo) := by simp [World.cell?, hR]
              have x1 : w14.cell? ⟨w13.heap.size, 1, none⟩ = some (.int .i64 (th + 1)) := by simp [World.cell?, hR]
              have htlen : ts.length = M := HTL.out
              obtain ⟨y0, y1, y2, y3⟩ := HS14.out.cells htlen.symm lo (by omega)
              rw [(List.getElem?_eq_some_iff.1 HTH.out).2] at y1
              have HX14 : Hid (w14.heap[w13.heap.size]? = some (.cells #[.int .i64 lo, .int .i64 (th + 1)] 27 (0, 0))) := Lib.hid hR
              clear HF HS8 hb hR htlen hS9
              go_wp2_with fail
              go_quiet (fail)
              have HS15 := Lib.hid (HS14.out.under (⟨rfl, rfl, rfl, Nat.le_refl _, fun _ _ => rfl⟩ : Below w14.heap.size w14 (w14.drewN nq)) (Nat.le_trans hgle HS14.out.below.size))
              have HX15 : Hid ((w14.drewN nq).heap[w13.heap.size]? = some (.cells #[.int .i64 lo, .int .i64 (th + 1)] 27 (0, 0))) := HX14
              clear HS14 HX14 x0 x1 y0 y1 y2 y3 e14
              generalize w14.drewN nq = wd3 at *
              have x0 : wd3.cell? ⟨w13.heap.size, 0, none⟩ = some (.int .i64 lo) := by simp [World.cell?, HX15.out]
              have x1 : wd3.cell? ⟨w13.heap.size, 1, none⟩ = some (.int .i64 (th + 1)) := by simp [World.cell?, HX15.out]
              have htlen : ts.length = M := HTL.out
              obtain ⟨y0, y1, y2, y3⟩ := HS15.out.cells htlen.symm lo (by omega)
              obtain ⟨z1, z2, hS12⟩ := HS15.out.turn htlen.symm lo (by omega) (th + 1) hgle
              rw [(List.getElem?_eq_some_iff.1 HTH.out).2] at z1 y1
              obtain ⟨w16, e16⟩ : ∃ w16, wd3.setCell ⟨ra, lo * 2, none⟩ (.int .i64 (lo : Int)) = w16 := ⟨_, rfl⟩
              rw [e16] at z1 z2 hS12
              obtain ⟨w17, e17⟩ : ∃ w17, w16.setCell ⟨ra, lo * 2 + 1, none⟩ (.int .i64 (th + 1)) = w17 := ⟨_, rfl⟩
              rw [e17] at hS12
              have HS17 := Lib.hid hS12
              clear hS12 htlen HS15
              have htk : (M : Int) - 1 + 1 = M := by omega
              rw [htk] at HS17
              obtain ⟨ts2, hts2⟩ : ∃ ts2, ts2 = ts.set lo (th + 1) := ⟨_, rfl⟩
              rw [← hts2] at HS17
              have HT2 := Lib.hid hts2
              have htl2' : ts2.length = M := by rw [hts2, List.length_set]; exact HTL.out
              have HTL2 := Lib.hid htl2'
              have HF := Lib.hid (HS17.out.full HE.out HG.out (by rw [aP_length]; omega) (by rw [lf_aP]; omega))
              clear htk hts2 htl2'
              go_wp2_with fail
              refine HF.out.mono ?_
              clear x0 x1 y0 y1 y2 y3 z1 z2 e16 e17
              rintro e wa ⟨j, rfl, hj, hS18⟩
              obtain ⟨w4, e4⟩ : ∃ w4, wa.alloc (.cells #[.int .i64 0, .int .i64 0] 27) = w4 := ⟨_, rfl⟩
              have hb4 : Below wa.heap.size wa w4 := by rw [← e4]; exact (Below.refl _ _).alloc (Nat.le_refl _) _
              have HS19 := Lib.hid (hS18.under hb4 (by have := hS18.below.size; omega))
              have HJ := Lib.hid (hj.below hb4)
              have HEE := Lib.hid (HE.out.below (by rw [← HG.out]; exact HS19.out.below))
              have hRa : w4.heap[wa.heap.size]? = some (.cells #[.int .i64 0, .int .i64 0] 27 (0, 0)) := by rw [← e4]; show (wa.heap.push _)[wa.heap.size]? = _; exact Array.getElem?_push_size
              have x0 : w4.cell? ⟨wa.heap.size, 0, none⟩ = some (.int .i64 0) := by simp [World.cell?, hRa]
              have x1 : w4.cell? ⟨wa.heap.size, 1, none⟩ = some (.int .i64 0) := by simp [World.cell?, hRa]
              have x2 : w4.frozen? ⟨wa.heap.size, 0, none⟩ = false := by simp [World.frozen?, hRa]
              have x3 : w4.frozen? ⟨wa.heap.size, 1, none⟩ = false := by simp [World.frozen?, hRa]
              have x4 : w4.setCell ⟨wa.heap.size, 0, none⟩ (.int .i64 0) = w4 := set_same hRa rfl
              have x5 : w4.setCell ⟨wa.heap.size, 1, none⟩ (.int .i64 0) = w4 := set_same hRa rfl
              clear hb4 hRa hj hS18 HF HS17
              go_wp2_with fail
              clear x0 x1 x2 x3 x4 x5 e4
              refine (Code_join j 2 _ HEE.out.et HJ.out).mono ?_
              rintro e w20 ⟨rfl, hb⟩
              have HS20 := Lib.hid (HS19.out.under hb (by have := HS19.out.below.size; omega))
              clear hb HS19 HJ HEE
              go_wp2_with fail
              refine (len_calls HS20.out.pl).mono ?_
              rintro e w21 ⟨rfl, rfl⟩
              go_wp2
              go_roundg (20 - (i + 1))
              case measure => omega
              case rel => exact ⟨i + 1, v, ts2, by omega, Nat.le_refl _, by go_num, HTL2, (by
                intro t ht
                rw [HT2.out] at ht
                rcases List.mem_or_eq_of_mem_set ht with ht | ht
                · have := HTB.out t ht; omega
                · omega), HS20⟩
            · have hnez : ¬ ((lo : Int) = (hi' : Int)) := by omega
              have hll : lo < hi' := by have := HLH.out; omega
              obtain ⟨tl, htl⟩ : ∃ tl, ts[lo]? = some tl := ⟨_, List.getElem?_eq_getElem (by have := HTL.out; omega)⟩
              have htl' := (List.getElem?_eq_some_iff.1 htl).2
              have htlen : ts.length = M := HTL.out
              obtain ⟨y0, y1, _, _⟩ := HS6.out.cells htlen.symm lo (by omega)
              rw [htl'] at y1
              have HF := Lib.hid (HS6.out.free hgle (by rw [List.length_set, aP_length]; omega) (by omega) (by omega) lo tl (by rw [List.length_set, aP_length]; omega) (by rw [List.getElem_set_ne (by omega), aP_get, htl']))
              have HTLO := Lib.hid htl
              have HNE := Lib.hid hne
              have HLL := Lib.hid hll
              clear htl htl' htlen hne hll
              go_wp2_with fail
              refine HF.out.mono ?_
              rintro e w7 ⟨rfl, hS7⟩
              have HS7 := Lib.hid hS7
              clear hS7 HF HS6 y0 y1
              have htlen : ts.length = M := HTL.out
              obtain ⟨y0, y1, _, _⟩ := HS7.out.cells htlen.symm hi' (by omega)
              rw [(List.getElem?_eq_some_iff.1 HTH.out).2] at y1
              have HF := Lib.hid (HS7.out.refuse HE.out HG.out (by rw [List.length_set, List.length_set, aP_length]; omega) (hi' : Int) th (by omega) (by omega) (by
                have := HLL.out
                unfold hasB
                rw [List.getD_eq_getElem?_getD, Int.toNat_natCast, List.getElem?_set_ne (by omega), List.getElem?_set_self (by rw [aP_length]; omega)]
                simp))
              clear htlen
              go_wp2_with fail
              refine HF.out.mono ?_
              rintro e w8 ⟨j, rfl, hS8⟩
              have HS8 := Lib.hid hS8
              clear hS8 HF HS7 y0 y1
              have htlen : ts.length = M := HTL.out
              have htl2 : 1 ≤ tl ∧ tl ≤ 1 + (i : Int) := HTB.out _ (List.mem_of_getElem? HTLO.out)
              have hth2 : 1 ≤ th ∧ th ≤ 1 + (i : Int) := HTB.out _ (List.mem_of_getElem? HTH.out)
              have HF := Lib.hid (HS8.out.take hgle (by rw [List.length_set, List.length_set, aP_length]; omega) (by omega) (by omega) lo tl (lf_two ts lo hi' tl th HLL.out (by omega)) (by omega) (by rw [List.length_set, List.length_set, aP_length]; omega) (by rw [List.getElem_set_self]) (by omega))
              clear htlen
              go_wp2_with fail
              refine HF.out.mono ?_
              rintro e w9 ⟨rfl, hS9⟩
              obtain ⟨w10, e10⟩ : ∃ w10, w9.alloc (.cells #[.int .i64 lo, .int .i64 (tl + 1)] 27) = w10 := ⟨_, rfl⟩
              have hb : Below w9.heap.size w9 w10 := by rw [← e10]; exact (Below.refl _ _).alloc (Nat.le_refl _) _
              have HS10 := Lib.hid (hS9.under hb (by have := hS9.below.size; omega))
              have hR : w10.heap[w9.heap.size]? = some (.cells #[.int .i64 lo, .int .i64 (tl + 1)] 27 (0, 0)) := by rw [← e10]; show (w9.heap.push _)[w9.heap.size]? = _; exact Array.getElem?_push_size
              have x0 : w10.cell? ⟨w9.heap.size, 0, none⟩ = some (.int .i64 lo) := by simp [World.cell?, hR]
              have x1 : w10.cell? ⟨w9.heap.size, 1, none⟩ = some (.int .i64 (tl + 1)) := by simp [World.cell?, hR]
              have htlen : ts.length = M := HTL.out
              obtain ⟨y0, y1, y2, y3⟩ := HS10.out.cells htlen.symm lo (by omega)
              rw [(List.getElem?_eq_some_iff.1 HTLO.out).2] at y1
              have HR10 := Lib.hid hR
              have HX10 : Hid (w10.heap[w9.heap.size]? = some (.cells #[.int .i64 lo, .int .i64 (tl + 1)] 27 (0, 0))) := Lib.hid hR
              clear HF HS8 hb hR htlen hS9
              go_wp2_with fail
              go_quiet (fail)
              have HS11 := Lib.hid (HS10.out.under (⟨rfl, rfl, rfl, Nat.le_refl _, fun _ _ => rfl⟩ : Below w10.heap.size w10 (w10.drewN nq)) (Nat.le_trans hgle HS10.out.below.size))
              have HX11 : Hid ((w10.drewN nq).heap[w9.heap.size]? = some (.cells #[.int .i64 lo, .int .i64 (tl + 1)] 27 (0, 0))) := HX10
              clear HS10 HX10 HR10 x0 x1 y0 y1 y2 y3 e10
              generalize w10.drewN nq = wd2 at *
              have x0 : wd2.cell? ⟨w9.heap.size, 0, none⟩ = some (.int .i64 lo) := by simp [World.cell?, HX11.out]
              have x1 : wd2.cell? ⟨w9.heap.size, 1, none⟩ = some (.int .i64 (tl + 1)) := by simp [World.cell?, HX11.out]
              have htlen : ts.length = M := HTL.out
              obtain ⟨y0, y1, y2, y3⟩ := HS11.out.cells htlen.symm lo (by omega)
              obtain ⟨z1, z2, hS12⟩ := HS11.out.turn htlen.symm lo (by omega) (tl + 1) hgle
              rw [(List.getElem?_eq_some_iff.1 HTLO.out).2] at z1 y1
              obtain ⟨w11, e11⟩ : ∃ w11, wd2.setCell ⟨ra, lo * 2, none⟩ (.int .i64 (lo : Int)) = w11 := ⟨_, rfl⟩
              rw [e11] at z1 z2 hS12
              obtain ⟨w12, e12⟩ : ∃ w12, w11.setCell ⟨ra, lo * 2 + 1, none⟩ (.int .i64 (tl + 1)) = w12 := ⟨_, rfl⟩
              rw [e12] at hS12
              have HS12 := Lib.hid hS12
              clear hS12 htlen
              have hps : ((((aP ts).set hi' (th, false)).set lo (tl, false)).set lo (tl + 1, true)) = (aP (ts.set lo (tl + 1))).set hi' (th, false) := by
                rw [List.set_set, List.set_comm _ _ (fun e => HNE.out e.symm), aP_set]
              have htk : (M : Int) - 1 - 1 + 1 = M - 1 := by omega
              rw [hps, htk] at HS12
              obtain ⟨ts1, hts1⟩ : ∃ ts1, ts1 = ts.set lo (tl + 1) := ⟨_, rfl⟩
              rw [← hts1] at HS12
              have HT1 := Lib.hid hts1
              have htl1 : ts1.length = M := by rw [hts1, List.length_set]; exact HTL.out
              have HTL1 := Lib.hid htl1
              have hth1 : ts1[hi']? = some th := by rw [hts1, List.getElem?_set_ne HNE.out]; exact HTH.out
              have HTH1 := Lib.hid hth1
              have HF := Lib.hid (HS12.out.take hgle (by rw [List.length_set, aP_length]; omega) (by omega) (by omega) hi' th (lf_one ts1 hi' th (by omega)) (by omega) (by rw [List.length_set, aP_length]; omega) (by rw [List.getElem_set_self]) (by omega))
              clear hps htk hts1 htl1 hth1
              go_wp2_with fail
              refine HF.out.mono ?_
              clear x0 x1 y0 y1 y2 y3 z1 z2 e11 e12
              rintro e w13 ⟨rfl, hS9⟩
              rw [List.set_set, aP_set] at hS9
              obtain ⟨w14, e14⟩ : ∃ w14, w13.alloc (.cells #[.int .i64 hi', .int .i64 (th + 1)] 27) = w14 := ⟨_, rfl⟩
              have hb : Below w13.heap.size w13 w14 := by rw [← e14]; exact (Below.refl _ _).alloc (Nat.le_refl _) _
              have HS14 := Lib.hid (hS9.under hb (by have := hS9.below.size; omega))
              have hR : w14.heap[w13.heap.size]? = some (.cells #[.int .i64 hi', .int .i64 (th + 1)] 27 (0, 0)) := by rw [← e14]; show (w13.heap.push _)[w13.heap.size]? = _; exact Array.getElem?_push_size
              have x0 : w14.cell? ⟨w13.heap.size, 0, none⟩ = some (.int .i64 hi') := by simp [World.cell?, hR]
              have x1 : w14.cell? ⟨w13.heap.size, 1, none⟩ = some (.int .i64 (th + 1)) := by simp [World.cell?, hR]
              have htlen : ts1.length = M := HTL1.out
              obtain ⟨y0, y1, y2, y3⟩ := HS14.out.cells htlen.symm hi' (by omega)
              rw [(List.getElem?_eq_some_iff.1 HTH1.out).2] at y1
              have HX14 : Hid (w14.heap[w13.heap.size]? = some (.cells #[.int .i64 hi', .int .i64 (th + 1)] 27 (0, 0))) := Lib.hid hR
              clear HF HS12 hb hR htlen hS9
              go_wp2_with fail
              go_quiet (fail)
              have HS15 := Lib.hid (HS14.out.under (⟨rfl, rfl, rfl, Nat.le_refl _, fun _ _ => rfl⟩ : Below w14.heap.size w14 (w14.drewN nq)) (Nat.le_trans hgle HS14.out.below.size))
              have HX15 : Hid ((w14.drewN nq).heap[w13.heap.size]? = some (.cells #[.int .i64 hi', .int .i64 (th + 1)] 27 (0, 0))) := HX14
              clear HS14 HX14 x0 x1 y0 y1 y2 y3 e14
              generalize w14.drewN nq = wd3 at *
              have x0 : wd3.cell? ⟨w13.heap.size, 0, none⟩ = some (.int .i64 hi') := by simp [World.cell?, HX15.out]
              have x1 : wd3.cell? ⟨w13.heap.size, 1, none⟩ = some (.int .i64 (th + 1)) := by simp [World.cell?, HX15.out]
              have htlen : ts1.length = M := HTL1.out
              obtain ⟨y0, y1, y2, y3⟩ := HS15.out.cells htlen.symm hi' (by omega)
              obtain ⟨z1, z2, hS12⟩ := HS15.out.turn htlen.symm hi' (by omega) (th + 1) hgle
              rw [(List.getElem?_eq_some_iff.1 HTH1.out).2] at z1 y1
              obtain ⟨w16, e16⟩ : ∃ w16, wd3.setCell ⟨ra, hi' * 2, none⟩ (.int .i64 (hi' : Int)) = w16 := ⟨_, rfl⟩
              rw [e16] at z1 z2 hS12
              obtain ⟨w17, e17⟩ : ∃ w17, w16.setCell ⟨ra, hi' * 2 + 1, none⟩ (.int .i64 (th + 1)) = w17 := ⟨_, rfl⟩
              rw [e17] at hS12
              have HS17 := Lib.hid hS12
              clear hS12 htlen HS15
              have htk : (M : Int) - 1 + 1 = M := by omega
              rw [htk] at HS17
              obtain ⟨ts2, hts2⟩ : ∃ ts2, ts2 = ts1.set hi' (th + 1) := ⟨_, rfl⟩
              rw [← hts2] at HS17
              have HT2 := Lib.hid hts2
              have htl2' : ts2.length = M := by rw [hts2, List.length_set]; exact HTL1.out
              have HTL2 := Lib.hid htl2'
              have HF := Lib.hid (HS17.out.full HE.out HG.out (by rw [aP_length]; omega) (by rw [lf_aP]; omega))
              clear htk hts2 htl2'
              go_wp2_with fail
              refine HF.out.mono ?_
              clear x0 x1 y0 y1 y2 y3 z1 z2 e16 e17
              rintro e wa ⟨j, rfl, hj, hS18⟩
              obtain ⟨w4, e4⟩ : ∃ w4, wa.alloc (.cells #[.int .i64 0, .int .i64 0] 27) = w4 := ⟨_, rfl⟩
              have hb4 : Below wa.heap.size wa w4 := by rw [← e4]; exact (Below.refl _ _).alloc (Nat.le_refl _) _
              have HS19 := Lib.hid (hS18.under hb4 (by have := hS18.below.size; omega))
              have HJ := Lib.hid (hj.below hb4)
              have HEE := Lib.hid (HE.out.below (by rw [← HG.out]; exact HS19.out.below))
              have hRa : w4.heap[wa.heap.size]? = some (.cells #[.int .i64 0, .int .i64 0] 27 (0, 0)) := by rw [← e4]; show (wa.heap.push _)[wa.heap.size]? = _; exact Array.getElem?_push_size
              have x0 : w4.cell? ⟨wa.heap.size, 0, none⟩ = some (.int .i64 0) := by simp [World.cell?, hRa]
              have x1 : w4.cell? ⟨wa.heap.size, 1, none⟩ = some (.int .i64 0) := by simp [World.cell?, hRa]
              have x2 : w4.frozen? ⟨wa.heap.size, 0, none⟩ = false := by simp [World.frozen?, hRa]
              have x3 : w4.frozen? ⟨wa.heap.size, 1, none⟩ = false := by simp [World.frozen?, hRa]
              have x4 : w4.setCell ⟨wa.heap.size, 0, none⟩ (.int .i64 0) = w4 := set_same hRa rfl
              have x5 : w4.setCell ⟨wa.heap.size, 1, none⟩ (.int .i64 0) = w4 := set_same hRa rfl
              clear hb4 hRa hj hS18 HF HS17
              go_wp2_with fail
              clear x0 x1 x2 x3 x4 x5 e4
              refine (Code_join j 2 _ HEE.out.et HJ.out).mono ?_
              rintro e w20 ⟨rfl, hb⟩
              have HS20 := Lib.hid (HS19.out.under hb (by have := HS19.out.below.size; omega))
              clear hb HS19 HJ HEE
              go_wp2_with fail
              refine (len_calls HS20.out.pl).mono ?_
              rintro e w21 ⟨rfl, rfl⟩
              go_wp2
              go_roundg (20 - (i + 1))
              case measure => omega
              case rel => exact ⟨i + 1, v, ts2, by omega, Nat.le_refl _, by go_num, HTL2, (by
                intro t ht
                rw [HT2.out, HT1.out] at ht
                rcases List.mem_or_eq_of_mem_set ht with ht | ht
                · rcases List.mem_or_eq_of_mem_set ht with ht | ht
                  · have := HTB.out t ht; omega
                  · omega
                · omega), HS20⟩
          · have hzz : (lo : Int) < (hi' : Int) := by omega
            have HAB := Lib.hid hab
            clear hab
            have htl : ts.length = M := HTL.out
            have hbd : ∀ k (hk : k < ts.length), 1 ≤ ts[k] ∧ ts[k] ≤ 1 + (i : Int) := fun k hk => HTB.out _ (List.getElem_mem hk)
            have hpl : (aP ts).length = M := by rw [aP_length]; exact htl
            obtain ⟨y0, y1, _, _⟩ := HS5.out.cells htl.symm hi' (by omega)
            obtain ⟨th, hth⟩ : ∃ th, ts[hi']? = some th := ⟨_, List.getElem?_eq_getElem (by omega)⟩
            have hth' := (List.getElem?_eq_some_iff.1 hth).2
            rw [hth'] at y1
            have HF := Lib.hid (HS5.out.free hgle (by omega) (by omega) (by omega) hi' th (by omega) (by rw [aP_get, hth']))
            have HTH := Lib.hid hth
            have HPL := Lib.hid hpl
            have HBD := Lib.hid hbd
            have hM1' : (hi' : Int) < (M : Int) := by omega
            have hl1' : (lo : Int) < (M : Int) := by omega
            have hl0 : (0 : Int) ≤ (lo : Int) := by omega
            have hh0 : (0 : Int) ≤ (hi' : Int) := by omega
            clear hth' hth hpl hbd htl
            have HLH := Lib.hid hlh
            clear hlh
            go_wp2_with fail
            refine HF.out.mono ?_
            rintro e w6 ⟨rfl, hS6⟩
            have HS6 := Lib.hid hS6
            clear hS6 HF HS5 y0 y1
            by_cases hne : lo = hi'
            · omega
            · have hnez : ¬ ((lo : Int) = (hi' : Int)) := by omega
              have hll : lo < hi' := by have := HLH.out; omega
              obtain ⟨tl, htl⟩ : ∃ tl, ts[lo]? = some tl := ⟨_, List.getElem?_eq_getElem (by have := HTL.out; omega)⟩
              have htl' := (List.getElem?_eq_some_iff.1 htl).2
              have htlen : ts.length = M := HTL.out
              obtain ⟨y0, y1, _, _⟩ := HS6.out.cells htlen.symm lo (by omega)
              rw [htl'] at y1
              have HF := Lib.hid (HS6.out.free hgle (by rw [List.length_set, aP_length]; omega) (by omega) (by omega) lo tl (by rw [List.length_set, aP_length]; omega) (by rw [List.getElem_set_ne (by omega), aP_get, htl']))
              have HTLO := Lib.hid htl
              have HNE := Lib.hid hne
              have HLL := Lib.hid hll
              clear htl htl' htlen hne hll
              go_wp2_with fail
              refine HF.out.mono ?_
              rintro e w7 ⟨rfl, hS7⟩
              have HS7 := Lib.hid hS7
              clear hS7 HF HS6 y0 y1
              have htlen : ts.length = M := HTL.out
              obtain ⟨y0, y1, _, _⟩ := HS7.out.cells htlen.symm hi' (by omega)
              rw [(List.getElem?_eq_some_iff.1 HTH.out).2] at y1
              have HF := Lib.hid (HS7.out.refuse HE.out HG.out (by rw [List.length_set, List.length_set, aP_length]; omega) (hi' : Int) th (by omega) (by omega) (by
                have := HLL.out
                unfold hasB
                rw [List.getD_eq_getElem?_getD, Int.toNat_natCast, List.getElem?_set_ne (by omega), List.getElem?_set_self (by rw [aP_length]; omega)]
                simp))
              clear htlen
              go_wp2_with fail
              refine HF.out.mono ?_
              rintro e w8 ⟨j, rfl, hS8⟩
              have HS8 := Lib.hid hS8
              clear hS8 HF HS7 y0 y1
              have htlen : ts.length = M := HTL.out
              have htl2 : 1 ≤ tl ∧ tl ≤ 1 + (i : Int) := HTB.out _ (List.mem_of_getElem? HTLO.out)
              have hth2 : 1 ≤ th ∧ th ≤ 1 + (i : Int) := HTB.out _ (List.mem_of_getElem? HTH.out)
              have HF := Lib.hid (HS8.out.take hgle (by rw [List.length_set, List.length_set, aP_length]; omega) (by omega) (by omega) lo tl (lf_two ts lo hi' tl th HLL.out (by omega)) (by omega) (by rw [List.length_set, List.length_set, aP_length]; omega) (by rw [List.getElem_set_self]) (by omega))
              clear htlen
              go_wp2_with fail
              refine HF.out.mono ?_
              rintro e w9 ⟨rfl, hS9⟩
              obtain ⟨w10, e10⟩ : ∃ w10, w9.alloc (.cells #[.int .i64 lo, .int .i64 (tl + 1)] 27) = w10 := ⟨_, rfl⟩
              have hb : Below w9.heap.size w9 w10 := by rw [← e10]; exact (Below.refl _ _).alloc (Nat.le_refl _) _
              have HS10 := Lib.hid (hS9.under hb (by have := hS9.below.size; omega))
              have hR : w10.heap[w9.heap.size]? = some (.cells #[.int .i64 lo, .int .i64 (tl + 1)] 27 (0, 0)) := by rw [← e10]; show (w9.heap.push _)[w9.heap.size]? = _; exact Array.getElem?_push_size
              have x0 : w10.cell? ⟨w9.heap.size, 0, none⟩ = some (.int .i64 lo) := by simp [World.cell?, hR]
              have x1 : w10.cell? ⟨w9.heap.size, 1, none⟩ = some (.int .i64 (tl + 1)) := by simp [World.cell?, hR]
              have htlen : ts.length = M := HTL.out
              obtain ⟨y0, y1, y2, y3⟩ := HS10.out.cells htlen.symm lo (by omega)
              rw [(List.getElem?_eq_some_iff.1 HTLO.out).2] at y1
              have HR10 := Lib.hid hR
              have HX10 : Hid (w10.heap[w9.heap.size]? = some (.cells #[.int .i64 lo, .int .i64 (tl + 1)] 27 (0, 0))) := Lib.hid hR
              clear HF HS8 hb hR htlen hS9
              go_wp2_with fail
              go_quiet (fail)
              have HS11 := Lib.hid (HS10.out.under (⟨rfl, rfl, rfl, Nat.le_refl _, fun _ _ => rfl⟩ : Below w10.heap.size w10 (w10.drewN nq)) (Nat.le_trans hgle HS10.out.below.size))
              have HX11 : Hid ((w10.drewN nq).heap[w9.heap.size]? = some (.cells #[.int .i64 lo, .int .i64 (tl + 1)] 27 (0, 0))) := HX10
              clear HS10 HX10 HR10 x0 x1 y0 y1 y2 y3 e10
              generalize w10.drewN nq = wd2 at *
              have x0 : wd2.cell? ⟨w9.heap.size, 0, none⟩ = some (.int .i64 lo) := by simp [World.cell?, HX11.out]
              have x1 : wd2.cell? ⟨w9.heap.size, 1, none⟩ = some (.int .i64 (tl + 1)) := by simp [World.cell?, HX11.out]
              have htlen : ts.length = M := HTL.out
              obtain ⟨y0, y1, y2, y3⟩ := HS11.out.cells htlen.symm lo (by omega)
              obtain ⟨z1, z2, hS12⟩ := HS11.out.turn htlen.symm lo (by omega) (tl + 1) hgle
              rw [(List.getElem?_eq_some_iff.1 HTLO.out).2] at z1 y1
              obtain ⟨w11, e11⟩ : ∃ w11, wd2.setCell ⟨ra, lo * 2, none⟩ (.int .i64 (lo : Int)) = w11 := ⟨_, rfl⟩
              rw [e11] at z1 z2 hS12
              obtain ⟨w12, e12⟩ : ∃ w12, w11.setCell ⟨ra, lo * 2 + 1, none⟩ (.int .i64 (tl + 1)) = w12 := ⟨_, rfl⟩
              rw [e12] at hS12
              have HS12 := Lib.hid hS12
              clear hS12 htlen
              have hps : ((((aP ts).set hi' (th, false)).set lo (tl, false)).set lo (tl + 1, true)) = (aP (ts.set lo (tl + 1))).set hi' (th, false) := by
                rw [List.set_set, List.set_comm _ _ (fun e => HNE.out e.symm), aP_set]
              have htk : (M : Int) - 1 - 1 + 1 = M - 1 := by omega
              rw [hps, htk] at HS12
              obtain ⟨ts1, hts1⟩ : ∃ ts1, ts1 = ts.set lo (tl + 1) := ⟨_, rfl⟩
              rw [← hts1] at HS12
              have HT1 := Lib.hid hts1
              have htl1 : ts1.length = M := by rw [hts1, List.length_set]; exact HTL.out
              have HTL1 := Lib.hid htl1
              have hth1 : ts1[hi']? = some th := by rw [hts1, List.getElem?_set_ne HNE.out]; exact HTH.out
              have HTH1 := Lib.hid hth1
              have HF := Lib.hid (HS12.out.take hgle (by rw [List.length_set, aP_length]; omega) (by omega) (by omega) hi' th (lf_one ts1 hi' th (by omega)) (by omega) (by rw [List.length_set, aP_length]; omega) (by rw [List.getElem_set_self]) (by omega))
              clear hps htk hts1 htl1 hth1
              go_wp2_with fail
              refine HF.out.mono ?_
              clear x0 x1 y0 y1 y2 y3 z1 z2 e11 e12
              rintro e w13 ⟨rfl, hS9⟩
              rw [List.set_set, aP_set] at hS9
              obtain ⟨w14, e14⟩ : ∃ w14, w13.alloc (.cells #[.int .i64 hi', .int .i64 (th + 1)] 27) = w14 := ⟨_, rfl⟩
              have hb : Below w13.heap.size w13 w14 := by rw [← e14]; exact (Below.refl _ _).alloc (Nat.le_refl _) _
              have HS14 := Lib.hid (hS9.under hb (by have := hS9.below.size; omega))
              have hR : w14.heap[w13.heap.size]? = some (.cells #[.int .i64 hi', .int .i64 (th + 1)] 27 (0, 0)) := by rw [← e14]; show (w13.heap.push _)[w13.heap.size]? = _; exact Array.getElem?_push_size
              have x0 : w14.cell? ⟨w13.heap.size, 0, none⟩ = some (.int .i64 hi') := by simp [World.cell?, hR]
              have x1 : w14.cell? ⟨w13.heap.size, 1, none⟩ = some (.int .i64 (th + 1)) := by simp [World.cell?, hR]
              have htlen : ts1.length = M := HTL1.out
              obtain ⟨y0, y1, y2, y3⟩ := HS14.out.cells htlen.symm hi' (by omega)
              rw [(List.getElem?_eq_some_iff.1 HTH1.out).2] at y1
              have HX14 : Hid (w14.heap[w13.heap.size]? = some (.cells #[.int .i64 hi', .int .i64 (th + 1)] 27 (0, 0))) := Lib.hid hR
              clear HF HS12 hb hR htlen hS9
              go_wp2_with fail
              go_quiet (fail)
              have HS15 := Lib.hid (HS14.out.under (⟨rfl, rfl, rfl, Nat.le_refl _, fun _ _ => rfl⟩ : Below w14.heap.size w14 (w14.drewN nq)) (Nat.le_trans hgle HS14.out.below.size))
              have HX15 : Hid ((w14.drewN nq).heap[w13.heap.size]? = some (.cells #[.int .i64 hi', .int .i64 (th + 1)] 27 (0, 0))) := HX14
              clear HS14 HX14 x0 x1 y0 y1 y2 y3 e14
              generalize w14.drewN nq = wd3 at *
              have x0 : wd3.cell? ⟨w13.heap.size, 0, none⟩ = some (.int .i64 hi') := by simp [World.cell?, HX15.out]
              have x1 : wd3.cell? ⟨w13.heap.size, 1, none⟩ = some (.int .i64 (th + 1)) := by simp [World.cell?, HX15.out]
              have htlen : ts1.length = M := HTL1.out
              obtain ⟨y0, y1, y2, y3⟩ := HS15.out.cells htlen.symm hi' (by omega)
              obtain ⟨z1, z2, hS12⟩ := HS15.out.turn htlen.symm hi' (by omega) (th + 1) hgle
              rw [(List.getElem?_eq_some_iff.1 HTH1.out).2] at z1 y1
              obtain ⟨w16, e16⟩ : ∃ w16, wd3.setCell ⟨ra, hi' * 2, none⟩ (.int .i64 (hi' : Int)) = w16 := ⟨_, rfl⟩
              rw [e16] at z1 z2 hS12
              obtain ⟨w17, e17⟩ : ∃ w17, w16.setCell ⟨ra, hi' * 2 + 1, none⟩ (.int .i64 (th + 1)) = w17 := ⟨_, rfl⟩
              rw [e17] at hS12
              have HS17 := Lib.hid hS12
              clear hS12 htlen HS15
              have htk : (M : Int) - 1 + 1 = M := by omega
              rw [htk] at HS17
              obtain ⟨ts2, hts2⟩ : ∃ ts2, ts2 = ts1.set hi' (th + 1) := ⟨_, rfl⟩
              rw [← hts2] at HS17
              have HT2 := Lib.hid hts2
              have htl2' : ts2.length = M := by rw [hts2, List.length_set]; exact HTL1.out
              have HTL2 := Lib.hid htl2'
              have HF := Lib.hid (HS17.out.full HE.out HG.out (by rw [aP_length]; omega) (by rw [lf_aP]; omega))
              clear htk hts2 htl2'
              go_wp2_with fail
              refine HF.out.mono ?_
              clear x0 x1 y0 y1 y2 y3 z1 z2 e16 e17
              rintro e wa ⟨j, rfl, hj, hS18⟩
              obtain ⟨w4, e4⟩ : ∃ w4, wa.alloc (.cells #[.int .i64 0, .int .i64 0] 27) = w4 := ⟨_, rfl⟩
              have hb4 : Below wa.heap.size wa w4 := by rw [← e4]; exact (Below.refl _ _).alloc (Nat.le_refl _) _
              have HS19 := Lib.hid (hS18.under hb4 (by have := hS18.below.size; omega))
              have HJ := Lib.hid (hj.below hb4)
              have HEE := Lib.hid (HE.out.below (by rw [← HG.out]; exact HS19.out.below))
              have hRa : w4.heap[wa.heap.size]? = some (.cells #[.int .i64 0, .int .i64 0] 27 (0, 0)) := by rw [← e4]; show (wa.heap.push _)[wa.heap.size]? = _; exact Array.getElem?_push_size
              have x0 : w4.cell? ⟨wa.heap.size, 0, none⟩ = some (.int .i64 0) := by simp [World.cell?, hRa]
              have x1 : w4.cell? ⟨wa.heap.size, 1, none⟩ = some (.int .i64 0) := by simp [World.cell?, hRa]
              have x2 : w4.frozen? ⟨wa.heap.size, 0, none⟩ = false := by simp [World.frozen?, hRa]
              have x3 : w4.frozen? ⟨wa.heap.size, 1, none⟩ = false := by simp [World.frozen?, hRa]
              have x4 : w4.setCell ⟨wa.heap.size, 0, none⟩ (.int .i64 0) = w4 := set_same hRa rfl
              have x5 : w4.setCell ⟨wa.heap.size, 1, none⟩ (.int .i64 0) = w4 := set_same hRa rfl
              clear hb4 hRa hj hS18 HF HS17
              go_wp2_with fail
              clear x0 x1 x2 x3 x4 x5 e4
              refine (Code_join j 2 _ HEE.out.et HJ.out).mono ?_
              rintro e w20 ⟨rfl, hb⟩
              have HS20 := Lib.hid (HS19.out.under hb (by have := HS19.out.below.size; omega))
              clear hb HS19 HJ HEE
              go_wp2_with fail
              refine (len_calls HS20.out.pl).mono ?_
              rintro e w21 ⟨rfl, rfl⟩
              go_wp2
              go_roundg (20 - (i + 1))
              case measure => omega
              case rel => exact ⟨i + 1, v, ts2, by omega, Nat.le_refl _, by go_num, HTL2, (by
                intro t ht
                rw [HT2.out, HT1.out] at ht
                rcases List.mem_or_eq_of_mem_set ht with ht | ht
                · rcases List.mem_or_eq_of_mem_set ht with ht | ht
                  · have := HTB.out t ht; omega
                  · omega
                · omega), HS20⟩
        · have HEX := Lib.hid (HE.out.below (by rw [← HG.out]; exact HS.out.below))
          by_cases hin1 : i < n
          · have hz1 : (i : Int) < (n : Int) := by omega
            have hz2 : ¬ (i : Int) < 20 := by omega
            clear hin
            go_wp2_with fail
            refine (awake_calls _ HEX.out).mono ?_
            rintro e w2 ⟨rfl, hb⟩
            go_wp2
            go_ret
            exact ⟨rfl, by rw [← HG.out]; exact HS.out.below.trans (hb.mono (Nat.le_trans hgle HS.out.below.size))⟩
          · have hz1 : ¬ (i : Int) < (n : Int) := by omega
            clear hin
            go_wp2_with fail
            refine (awake_calls _ HEX.out).mono ?_
            rintro e w2 ⟨rfl, hb⟩
            go_wp2
            go_ret
            exact ⟨rfl, by rw [← HG.out]; exact HS.out.below.trans (hb.mono (Nat.le_trans hgle HS.out.below.size))⟩
end Go.Proofs.YtppapffkidkonaaDoor
