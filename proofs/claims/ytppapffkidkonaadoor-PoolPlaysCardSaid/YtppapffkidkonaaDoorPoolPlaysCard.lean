/-
  PoolPlays: places are taken, freed and known as the document says: the least free one, by its turn. For every input; the four listed package-level variables hold what the program's text lays (the card ties them). No other condition.
-/
import Derived.Test.YtppapffkidkonaaDoorPoolR
import Derived.Test.YtppapffkidkonaaDoorPoolY
import Derived.Test.YtppapffkidkonaaDoorCards
import Derived.Test.YtppapffkidkonaaDoorTie
import Derived.SevenTiedAt
import Derived.ChangeSame
import Derived.ChangeArms
namespace Go.Proofs.YtppapffkidkonaaDoor
open Go.ChangeShapes Go.WideShapes Go.ChangeAt Go.RowKit

theorem list_of_each {α : Type} {Q : Nat → α → Prop} : ∀ (n : Nat), (∀ i, i < n → ∃ p, Q i p) → ∃ l : List α, l.length = n ∧ ∀ i (hi : i < l.length), Q i l[i]
  | 0, _ => ⟨[], rfl, fun i hi => absurd hi (Nat.not_lt_zero _)⟩
  | n + 1, h => by
    obtain ⟨l, hl, hq⟩ := list_of_each n (fun i hi => h i (by omega))
    obtain ⟨p, hp⟩ := h n (by omega)
    refine ⟨l ++ [p], by simp [hl], fun i hi => ?_⟩
    by_cases hin : i < l.length
    · rw [List.getElem_append_left hin]; exact hq i hin
    · have e : i = n := by simp at hi; omega
      subst e
      rw [List.getElem_append_right (by omega)]
      simp [hl, hp]

/-- A slice argument of handles, opened. -/
theorem open_hnds {H : Type} {enc : TypeId × Value → H} {W : World} {a : Option Addr} {len cap : Nat} {d : DataW H} {ps : List MemPlace} {ts : List TypeId} {ds : List (DataW H)} {j : Nat}
    (hsz : (DataW.weightsEach Tryd.prog ts ds).all (· ≤ reachBytes) = true) (ht : ts[j]? = some 25) (hd : ds[j]? = some d)
    (h : DataW.Trod enc Tryd.prog W 0 (fun _ => true) true 25 (.slice a len cap) d ps) :
    ∃ rs : List (Int × Int), rs.length = len ∧ len ≤ cap ∧ len < 4611686018427387904 ∧
      (∀ i (hi : i < rs.length), ∃ b o : Nat, a = some ⟨b, o, none⟩ ∧ W.cell? ⟨b, o + i * 2, none⟩ = some (.int .i64 rs[i].1) ∧ W.cell? ⟨b, o + i * 2 + 1, none⟩ = some (.int .i64 rs[i].2) ∧ b < W.heap.size) ∧
      ∀ h ∈ rs, -9223372036854775808 ≤ h.1 ∧ h.1 ≤ 9223372036854775807 := by
  obtain ⟨fuel, hf⟩ := h
  have hc2 : Tryd.prog.cellsOf 27 = 2 := by kernel_rfl
  have hc1 : Tryd.prog.cellsOf 3 = 1 := by kernel_rfl
  have hB : Tryd.prog.bytesOf 27 = 16 := by kernel_rfl
  rcases DataW.trod_slice Tryd.underlying25 hf with ⟨hcs, _⟩ | ⟨x, l, c, elems, rest, n, _, hcs, hx, _, hl, _, hlen, hel, _, _⟩
  · simp [Value.cells] at hcs
    obtain ⟨rfl, rfl, rfl⟩ := hcs
    exact ⟨[], rfl, Nat.le_refl _, by omega, fun i hi => absurd hi (Nat.not_lt_zero _), fun z hz => absurd hz List.not_mem_nil⟩
  · simp [Value.cells] at hcs
    obtain ⟨rfl, rfl, rfl⟩ := hcs
    obtain ⟨hx, _⟩ := Prod.mk.inj hx
    subst hx
    have z := sized_slice hsz ht hd Tryd.underlying25
    rw [hB] at z
    have hb : reachBytes < 2 ^ 47 := reachBytes_lt
    have hlm : elems.length = (elems.map (·.1)).length := by simp
    obtain ⟨b, o, sp⟩ := x
    have at_i : ∀ i, i < len → ∃ p : Int × Int, W.cell? (((⟨b, o, sp⟩ : Addr).add (i * 2)).add 0) = some (.int .i64 p.1) ∧ W.cell? (((⟨b, o, sp⟩ : Addr).add (i * 2)).add 1) = some (.int .i64 p.2) ∧ (Lit.int .i64 p.1).wf = true := by
      intro i hi
      have h1 := hel i hi
      rw [List.getElem?_eq_getElem (by omega), hc2] at h1
      obtain ⟨cs, hcells, htr⟩ := Option.bind_eq_some_iff.1 h1
      obtain ⟨_, hcl, hat⟩ := World.cells?_some hcells
      obtain ⟨y0, y1, m, _, _, u0, u1⟩ := trod_struct2 Tryd.underlying27 htr
      obtain ⟨p0, e0, _, w0⟩ := DataW.trod_int Tryd.underlying3 u0
      obtain ⟨p1, e1, _, _⟩ := DataW.trod_int Tryd.underlying3 u1
      have c0 := hat 0 (by omega)
      have c1 := hat 1 (by omega)
      rw [hc1] at e0 e1
      obtain ⟨v0, v1, rfl⟩ : ∃ v0 v1, cs = [v0, v1] := by
        rcases cs with _ | ⟨v0, _ | ⟨v1, _ | ⟨v2, cs⟩⟩⟩
        · cases hcl
        · cases hcl
        · exact ⟨v0, v1, rfl⟩
        · simp at hcl
      · have f0 : [v0] = [.int .i64 p0] := e0
        have f1 : [v1] = [.int .i64 p1] := e1
        have g0 := (List.cons.inj f0).1
        have g1 := (List.cons.inj f1).1
        clear e0 e1 f0 f1 u0 u1 htr hcells
        have c0 : W.cell? (((⟨b, o, sp⟩ : Addr).add (i * 2)).add 0) = some v0 := c0
        have c1 : W.cell? (((⟨b, o, sp⟩ : Addr).add (i * 2)).add 1) = some v1 := c1
        subst g0
        subst g1
        exact ⟨(p0, p1), c0, c1, w0⟩
    have each : ∀ i, i < len → ∃ p : Int × Int, sp = none ∧ W.cell? ⟨b, o + i * 2, none⟩ = some (.int .i64 p.1) ∧ W.cell? ⟨b, o + i * 2 + 1, none⟩ = some (.int .i64 p.2) ∧ (Lit.int .i64 p.1).wf = true := by
      intro i hi
      have hs : sp = none := by
        obtain ⟨p, c0, _⟩ := at_i 0 (by omega)
        have hspot := World.cell?_spot c0
        simpa [Addr.add] using hspot
      subst hs
      obtain ⟨p, c0, c1, w0⟩ := at_i i hi
      rw [Go.WideShapes.add_plain, Go.WideShapes.add_plain] at c0 c1
      exact ⟨p, rfl, c0, c1, w0⟩
    obtain ⟨rs, hrl, hrq⟩ := list_of_each len each
    refine ⟨rs, hrl, hl, by omega, fun i hi => ?_, fun h hh => ?_⟩
    · obtain ⟨hs, q0, q1, _⟩ := hrq i hi
      subst hs
      refine ⟨b, o, rfl, q0, q1, ?_⟩
      unfold World.cell? at q0
      cases hbk : W.heap[b]? with
      | none => simp only [hbk] at q0; cases q0
      | some ob => exact (Array.getElem?_eq_some_iff.1 hbk).1
    · obtain ⟨i, hi, rfl⟩ := List.mem_iff_getElem.1 hh
      have hw := (hrq i hi).2.2.2
      exact bounds_i64 hw

set_option maxRecDepth 100000 in
theorem poolPlays_lifted (os : Os) (started : os.Started) (H : Type) (enc : TypeId × Value → H) :
    ReturnsInHanded {} Tryd.checked os 4 .any (fun w args => (Rows.poolPlaysSpec.pre enc Tryd.prog Tryd.f4 [] false w args ∧ laidMetH Tryd.prog laid w) ∧ sizedMet enc Tryd.prog Tryd.f4 (OpenSpec.ofChange Rows.poolPlaysSpec) false w args)
      (Rows.poolPlaysSpec.post enc Tryd.prog Tryd.f4 false true false false) := by
  refine returnsInHanded_of_change_and (C := Tryd.checked) (X := fun w _ => laidMetH Tryd.prog laid w) (fun _ _ _ hh h => h.of_heap hh) own_knob started (by kernel_rfl) Tryd.func4
    (ChangeSpec.witness_at (enc := enc) (C := Tryd.checked) (os := os) (X := fun w _ => laidMetH Tryd.prog laid w) false (laidWorld os) #[.int .i64 0, .slice none 0 0, .slice none 0 0] 8 rfl (by kernel_rfl) (by kernel_rfl) (by kernel_rfl) (by kernel_rfl) (by kernel_rfl) (laidWorld_met os _)) ?_
  intro W base args ds gs before hval0 hW _ hsz0 hL _
  have hsz : (DataW.weightsEach Tryd.prog (Tryd.f4.params.toList ++ Rows.poolPlaysSpec.plain.varTypes Tryd.prog) (ds ++ gs)).all (· ≤ reachBytes) = true := hsz0
  have hval : ∀ (j : Nat) t v, Tryd.f4.params[j]? = some t → args[j]? = some v → Value.okWide Tryd.prog W .any base t v := hval0
  have hW' := hW
  obtain ⟨p, q, hA0, hV, rfl, hfz, hnd⟩ := hW
  have hA : DataW.TrodAll enc Tryd.prog W 0 (fun _ => true) true Tryd.f4.params.toList args.toList ds p := hA0
  rw [Tryd.params4] at hA hval hsz
  obtain ⟨v0, vs0, d0, ds0, p0, q0, hargs, rfl, rfl, h0, r0⟩ := trodAll_cons hA
  obtain ⟨v1, vs1, d1, ds1, p1, q1, rfl, rfl, rfl, h1, r1⟩ := trodAll_cons r0
  obtain ⟨v2, vs2, d2, ds2, p2, q2, rfl, rfl, rfl, h2, r2⟩ := trodAll_cons r1
  obtain ⟨rfl, rfl, rfl⟩ := trodAll_nil r2
  obtain rfl : args = #[v0, v1, v2] := by cases args; simp_all
  obtain ⟨rfl, rfl⟩ := trodVars_none hV
  obtain ⟨m, rfl, rfl, rfl, w0⟩ := open_int Tryd.underlying3 (hval 0 3 v0 rfl rfl) h0
  obtain ⟨a1, len1, cap1, rfl⟩ := okWide_slice Tryd.underlying39 (hval 1 39 v1 rfl rfl)
  obtain ⟨a2, len2, cap2, rfl⟩ := okWide_slice Tryd.underlying25 (hval 2 25 v2 rfl rfl)
  have k1 := h1
  have k2 := h2
  have lt1 : ∀ x ∈ p1, x.block < W.heap.size := by obtain ⟨n, hn⟩ := k1; exact DataW.trod_lt n _ _ _ hn
  have lt2 : ∀ x ∈ p2, x.block < W.heap.size := by obtain ⟨n, hn⟩ := k2; exact DataW.trod_lt n _ _ _ hn
  obtain ⟨xs, rfl, hcap, hmax, hcells, _⟩ := open_row (j := 1) hsz rfl rfl Tryd.underlying39 Tryd.underlying2 (by kernel_rfl) (by kernel_rfl) h1
  obtain ⟨rs, rfl, hcap2, hmax2, hcells2, hb2⟩ := open_hnds (j := 2) hsz rfl rfl h2
  clear hA0 hval0 hsz0 hsz
  refine (plays_calls W (env_of_laid hL) m a1 cap1 xs hcells hcap hmax a2 cap2 rs hcells2 hcap2 hmax2 hb2).mono fun e W' ⟨he, bel⟩ => ?_
  subst he
  exact ⟨_, rfl, _, _, _, [], _, [], hW', trodAll_mk1 (shut_bool Tryd.underlying4 _), (trodAll_cons_mk (shut_int Tryd.underlying3 w0) (trodAll_cons_mk (Below.trod laid_out (by kernel_rfl) (of_decide_eq_true (by kernel_rfl)) k1 bel lt1) (trodAll_cons_mk (Below.trod laid_out (by kernel_rfl) (of_decide_eq_true (by kernel_rfl)) k2 bel lt2) trodAll_mk0))), rfl, bel.frame _, fun h => by cases h⟩
theorem poolPlays_row : Rows.PoolPlaysSaid :=
  OpenClaim.holds_of_wide 4 Tryd.f4 rfl rfl rfl rfl rfl rfl rfl ⟨rfl, rfl, rfl, rfl, rfl⟩ rfl rfl rfl rfl rfl (by kernel_rfl) Tryd.func4 (by kernel_rfl)
    (of_decide_eq_true (by kernel_rfl)) (by unfold Func.isWrapper; first | (rw [if_pos (by decide +kernel)]; kernel_rfl) | (rw [if_neg (by decide +kernel)]; exact ⟨rfl, rfl⟩))
    (fun os started H enc _ => poolPlays_lifted os started H enc)
#print axioms poolPlays_row
theorem poolPlays_card : Rows.PoolPlaysCardSaid :=
  Claim7.holds_tied_plain_at .later [] [.data, .data, .data, .handle] true (true, "2f44a09dd79caeb2b710a4505a5e3aa13195d71692f9c8490be84a49dbdabeb0") true
    poolPlays_row (fun _ h => by cases h) (by kernel_rfl) (fun _ h => by cases h) poolPlays_row_tie rfl ⟨rfl, rfl⟩ (by kernel_rfl) rfl
    (fun f fn hf hfn => by
      obtain rfl : f = 4 := Option.some.inj ((show Tryd.prog.funcNamed "quoin/quoinlaw3.PoolPlays" = some 4 by kernel_rfl).symm.trans hf) |>.symm
      obtain rfl : fn = Tryd.f4 := (Option.some.inj (Tryd.func4.symm.trans hfn)).symm
      exact ⟨by kernel_rfl, fun j t ht => by
        rw [Tryd.params4] at ht
        have hm : t ∈ [3, 39, 25] := by simpa using Array.mem_of_getElem? ht
        have hall : ([3, 39, 25].all fun u => !Tryd.prog.wantsStandIn u) = true := by kernel_rfl
        exact (show Tryd.prog.wantsStandIn t = false by simpa using List.all_eq_true.1 hall t hm)⟩)
    (by kernel_rfl)
#print axioms poolPlays_card
end Go.Proofs.YtppapffkidkonaaDoor
