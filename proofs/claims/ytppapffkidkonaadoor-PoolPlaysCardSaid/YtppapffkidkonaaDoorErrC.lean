import Derived.Test.YtppapffkidkonaaDoorErrB
namespace Go.Proofs.YtppapffkidkonaaDoor
open Go.RowKit Go.Extern.Stop Go.Stop Go.Extern
set_option linter.unusedVariables false
set_option linter.unusedSimpArgs false

set_option maxHeartbeats 2000000 in
theorem as_join (j b p cap : Nat) (c : Int) (V t : Nat) (tg : Value) (old : Value) (w : World) (hj : w.cell? ⟨j, 0, none⟩ = some (.slice (some ⟨b, 0, none⟩) 2 cap)) (hb0 : w.cell? ⟨b, 0, none⟩ = some (.iface 77 (.pointer (some ⟨p, 0, none⟩)))) (hb1 : w.cell? ⟨b, 1, none⟩ = some (.iface 34 (.int .i64 c)))
    (hV : w.cell? ⟨V, 0, none⟩ = some (.pointer (some ⟨t, 0, none⟩))) (ht : w.cell? ⟨t, 0, none⟩ = some old) (hf : w.frozen? ⟨t, 0, none⟩ = false) :
    Calls Tryd.prog 27 #[.iface 74 (.pointer (some ⟨j, 0, none⟩)), tg, .agg #[.pointer (some ⟨4, 56, none⟩), .pointer (some ⟨V, 0, none⟩), .int .u64 150], .iface 82 (.agg #[.pointer (some ⟨4, 34, none⟩)])] w fun e w' => e = .returned (.bool true) ∧ Below w.heap.size (w.setCell ⟨t, 0, none⟩ (.int .i64 c)) w' := by
  have lt_of : ∀ {k o : Nat} {v : Value}, w.cell? ⟨k, o, none⟩ = some v → k < w.heap.size := fun {k o v} h => by
    rcases Nat.lt_or_ge k w.heap.size with h' | h'
    · exact h'
    · simp [World.cell?, Array.getElem?_eq_none h'] at h
  have jl := lt_of hj
  have bl := lt_of hb0
  have Vl := lt_of hV
  have tl := lt_of ht
  have hT := @run_callFunc_extern Tryd.prog 29 _ ReflectliteType.typeOf Tryd.func29 (by kernel_rfl) (by kernel_rfl) (by kernel_rfl) (by kernel_rfl)
  have hA := @run_callFunc_extern Tryd.prog 68 _ (ReflectliteType.relation "AssignableTo" ReflectliteType.assignableTo) Tryd.func68 (by kernel_rfl) (by kernel_rfl) (by kernel_rfl) (by kernel_rfl)
  have tO := E.typeOfJ
  have mA := E.methodAssignableTo
  have aS := E.assignableJ
  have s1 := E.jAs
  have s2 := E.jUn
  have s3 := E.jUm
  have mU := E.methodUnwrap
  go_enter Tryd.func27, Tryd.ntmps27
  go_wp2
  refine wp_loop_rounds 1 ?_
  rw [rounds_succ]
  go_wp2_with fail
  refine (joinUnwrap j (.slice (some ⟨b, 0, none⟩) 2 cap) _ (by rw [World.cell?_alloc_lt _ _ ⟨j, 0, none⟩ jl]; exact hj)).mono ?_
  rintro e w1 ⟨rfl, rfl⟩
  have b0 : (w.alloc (.cells #[.pointer (some ⟨4, 56, none⟩), .pointer (some ⟨V, 0, none⟩), .int .u64 150] 64)).cell? ⟨b, 0, none⟩ = some (.iface 77 (.pointer (some ⟨p, 0, none⟩))) := by rw [World.cell?_alloc_lt _ _ ⟨b, 0, none⟩ bl]; exact hb0
  have b1 : ((w.alloc (.cells #[.pointer (some ⟨4, 56, none⟩), .pointer (some ⟨V, 0, none⟩), .int .u64 150] 64)).alloc (.cells #[.pointer (some ⟨4, 56, none⟩), .pointer (some ⟨V, 0, none⟩), .int .u64 150] 64)).cell? ⟨b, 1, none⟩ = some (.iface 34 (.int .i64 c)) := by rw [World.cell?_alloc_lt _ _ ⟨b, 1, none⟩ (by first | (simp; done) | (simp; omega)), World.cell?_alloc_lt _ _ ⟨b, 1, none⟩ bl]; exact hb1
  go_wp2_with fail
  refine wp_loop_rounds 2 ?_
  rw [rounds_succ]
  go_wp2_with fail
  refine (as_str ⟨p, 0, none⟩ tg tg _ _ _ _).mono ?_
  rintro e w1 ⟨rfl, rfl⟩
  go_wp2_with fail
  rw [rounds_succ]
  go_wp2_with fail
  refine (as_errno c V t tg old _ (by rw [World.cell?_alloc_lt _ _ ⟨V, 0, none⟩ (by first | (simp; done) | (simp; omega)), World.cell?_alloc_lt _ _ ⟨V, 0, none⟩ Vl]; exact hV) (by rw [World.cell?_alloc_lt _ _ ⟨t, 0, none⟩ (by first | (simp; done) | (simp; omega)), World.cell?_alloc_lt _ _ ⟨t, 0, none⟩ tl]; exact ht) (by rw [World.frozen?_alloc_old _ _ ⟨t, 0, none⟩ (by first | (simp; done) | (simp; omega)), World.frozen?_alloc_old _ _ ⟨t, 0, none⟩ (Nat.ne_of_lt tl)]; exact hf)).mono ?_
  rintro e w1 ⟨rfl, rfl⟩
  go_wp2
  go_ret
  refine ⟨rfl, ?_⟩
  exact ((((Below.refl w.heap.size (w.setCell ⟨t, 0, none⟩ (.int .i64 c))).alloc (by simp) _).alloc (by first | (simp; done) | (simp; omega)) _).alloc (by first | (simp; done) | (simp; omega)) _).alloc (by first | (simp; done) | (simp; omega)) _

/-- What errors.Join makes of an errorString and an Errno. -/
structure JoinErr (w : World) (j : Nat) (c : Int) : Prop where
  at_ : ∃ b p cap : Nat, w.cell? ⟨j, 0, none⟩ = some (.slice (some ⟨b, 0, none⟩) 2 cap) ∧ w.cell? ⟨b, 0, none⟩ = some (.iface 77 (.pointer (some ⟨p, 0, none⟩))) ∧ w.cell? ⟨b, 1, none⟩ = some (.iface 34 (.int .i64 c))
theorem JoinErr.below {w w' : World} {j : Nat} {c : Int} (h : JoinErr w j c) (hb : Below w.heap.size w w') : JoinErr w' j c := by
  obtain ⟨b, p, cap, h1, h2, h3⟩ := h.at_
  have lt_of : ∀ {k o : Nat} {v : Value}, w.cell? ⟨k, o, none⟩ = some v → k < w.heap.size := fun {k o v} h => by
    rcases Nat.lt_or_ge k w.heap.size with h' | h'
    · exact h'
    · simp [World.cell?, Array.getElem?_eq_none h'] at h
  exact ⟨b, p, cap, (hb.cell (p := ⟨j, 0, none⟩) (lt_of h1)).trans h1, (hb.cell (p := ⟨b, 0, none⟩) (lt_of h2)).trans h2, (hb.cell (p := ⟨b, 1, none⟩) (lt_of h3)).trans h3⟩
/-- The listed variable errors.errorType. -/
def ErrType (w : World) : Prop := w.cell? ⟨0, 0, none⟩ = some (.iface 82 (.agg #[.pointer (some ⟨4, 29, none⟩)]))
theorem ErrType.lt {w : World} (h : ErrType w) : 0 < w.heap.size := by
  rcases Nat.lt_or_ge 0 w.heap.size with h' | h'
  · exact h'
  · unfold ErrType at h
    simp [World.cell?, Array.getElem?_eq_none h'] at h
theorem ErrType.below {w w' : World} (h : ErrType w) (hb : Below w.heap.size w w') : ErrType w' := (hb.cell (p := ⟨0, 0, none⟩) h.lt).trans h

set_option maxHeartbeats 4000000 in
theorem As_join (j t : Nat) (c : Int) (old : Value) (w : World) (hg0 : ErrType w) (he : JoinErr w j c) (ht : w.cell? ⟨t, 0, none⟩ = some old) (hf : w.frozen? ⟨t, 0, none⟩ = false) :
    Calls Tryd.prog 20 #[.iface 74 (.pointer (some ⟨j, 0, none⟩)), .iface 56 (.pointer (some ⟨t, 0, none⟩))] w fun e w' => e = .returned (.bool true) ∧ Below w.heap.size (w.setCell ⟨t, 0, none⟩ (.int .i64 c)) w' := by
  obtain ⟨b, p, cap, hj, hb0, hb1⟩ := he.at_
  have hg : w.cell? ⟨0, 0, none⟩ = some (.iface 82 (.agg #[.pointer (some ⟨4, 29, none⟩)])) := hg0
  have hgl := hg0.lt
  clear hg0 he
  have lt_of : ∀ {k o : Nat} {v : Value}, w.cell? ⟨k, o, none⟩ = some v → k < w.heap.size := fun {k o v} h => by
    rcases Nat.lt_or_ge k w.heap.size with h' | h'
    · exact h'
    · simp [World.cell?, Array.getElem?_eq_none h'] at h
  have jl := lt_of hj
  have bl := lt_of hb0
  have tl := lt_of ht
  clear lt_of
  have h6 := @run_callFunc_extern Tryd.prog 24 _ (fun args => ReflectliteValue.unpack (args.getD 0 (.tuple #[]))) Tryd.func24 (by kernel_rfl) (by kernel_rfl) (by kernel_rfl) (by kernel_rfl)
  have h7 := @run_callFunc_extern Tryd.prog 25 _ (ReflectliteValue.methodAny (ReflectliteValue.valueError "reflectlite.Value.Type" 0) (fun t _ _ _ => ReflectliteType.toType t)) Tryd.func25 (by kernel_rfl) (by kernel_rfl) (by kernel_rfl) (by kernel_rfl)
  have h8 := @run_callFunc_extern Tryd.prog 26 _ (ReflectliteValue.method (ReflectliteValue.valueError "reflectlite.Value.IsNil" 0) ReflectliteValue.isNil) Tryd.func26 (by kernel_rfl) (by kernel_rfl) (by kernel_rfl) (by kernel_rfl)
  have h27 := @run_callFunc_extern Tryd.prog 57 _ (ReflectliteType.abiMethod fun t => do pure (.int .u8 (← Rtype.kind t))) Tryd.func57 (by kernel_rfl) (by kernel_rfl) (by kernel_rfl) (by kernel_rfl)
  have h37 := @run_callFunc_extern Tryd.prog 70 _ (ReflectliteType.method ReflectliteType.elem) Tryd.func70 (by kernel_rfl) (by kernel_rfl) (by kernel_rfl) (by kernel_rfl)
  have h38 := @run_callFunc_extern Tryd.prog 71 _ (ReflectliteType.relation "Implements" ReflectliteType.implements_) Tryd.func71 (by kernel_rfl) (by kernel_rfl) (by kernel_rfl) (by kernel_rfl)
  have f6 := E.valueOfP
  have f7 := E.typeP
  have mK := E.methodKind
  have mE := E.methodElem
  have mI := E.methodImplements
  have k1 := E.kindP
  have k2 := E.kindE
  have e1 := E.elemP
  have i1 := E.implementsE
  have n8 := E.isNilP ⟨w.heap.size, 0, none⟩ ⟨t, 0, none⟩ ((w.alloc (.cells #[.pointer (some ⟨t, 0, none⟩)] 56)).alloc (.cells #[.pointer (some ⟨4, 56, none⟩), .pointer (some ⟨w.heap.size, 0, none⟩), .int .u64 150] 64)) (by simp)
  have hg2 : ((w.alloc (.cells #[.pointer (some ⟨t, 0, none⟩)] 56)).alloc (.cells #[.pointer (some ⟨4, 56, none⟩), .pointer (some ⟨w.heap.size, 0, none⟩), .int .u64 150] 64)).cell? ⟨0, 0, none⟩ = some (.iface 82 (.agg #[.pointer (some ⟨4, 29, none⟩)])) := by
    rw [World.cell?_alloc_lt _ _ ⟨0, 0, none⟩ (by first | (simp; done) | (simp; omega)), World.cell?_alloc_lt _ _ ⟨0, 0, none⟩ hgl]; exact hg
  go_enter Tryd.func20, Tryd.ntmps20
  go_wp2_with fail
  refine (as_join j b p cap c w.heap.size t _ old _ (by rw [World.cell?_alloc_lt _ _ ⟨j, 0, none⟩ (by first | (simp; done) | (simp; omega)), World.cell?_alloc_lt _ _ ⟨j, 0, none⟩ jl]; exact hj) (by rw [World.cell?_alloc_lt _ _ ⟨b, 0, none⟩ (by first | (simp; done) | (simp; omega)), World.cell?_alloc_lt _ _ ⟨b, 0, none⟩ bl]; exact hb0) (by rw [World.cell?_alloc_lt _ _ ⟨b, 1, none⟩ (by first | (simp; done) | (simp; omega)), World.cell?_alloc_lt _ _ ⟨b, 1, none⟩ bl]; exact hb1)
    (by rw [World.cell?_alloc_lt _ _ ⟨w.heap.size, 0, none⟩ (by simp)]; simp) (by rw [World.cell?_alloc_lt _ _ ⟨t, 0, none⟩ (by first | (simp; done) | (simp; omega)), World.cell?_alloc_lt _ _ ⟨t, 0, none⟩ tl]; exact ht) (by rw [World.frozen?_alloc_old _ _ ⟨t, 0, none⟩ (by first | (simp; done) | (simp; omega)), World.frozen?_alloc_old _ _ ⟨t, 0, none⟩ (Nat.ne_of_lt tl)]; exact hf)).mono ?_
  rintro e w1 ⟨rfl, hb⟩
  go_wp2
  go_ret
  refine ⟨rfl, ?_⟩
  rw [World.setCell_alloc_past _ _ _ _ (by first | (simp; done) | (simp; omega)), World.setCell_alloc_past _ _ _ _ tl] at hb
  exact (((Below.refl w.heap.size (w.setCell ⟨t, 0, none⟩ (.int .i64 c))).alloc (by simp) _).alloc (by first | (simp; done) | (simp; omega)) _).trans (hb.mono (by first | (simp; done) | (simp; omega)))

set_option maxHeartbeats 2000000 in
theorem Code_join (j : Nat) (c : Int) (w : World) (hg : ErrType w) (he : JoinErr w j c) :
    Calls Tryd.prog 9 #[.iface 74 (.pointer (some ⟨j, 0, none⟩))] w fun e w' => e = .returned (.int .i64 c) ∧ Below w.heap.size w w' := by
  have hb0 : Below w.heap.size w (w.alloc (.cells #[.int .i64 0] 34)) := (Below.refl _ _).alloc (Nat.le_refl _) _
  have H := Lib.hid (As_join j w.heap.size c (.int .i64 0) (w.alloc (.cells #[.int .i64 0] 34)) (hg.below hb0) (he.below hb0) (by simp) (by simp))
  clear hg he
  go_enter Tryd.func9, Tryd.ntmps9
  go_wp2_with fail
  refine H.out.mono ?_
  clear H
  rintro e w1 ⟨rfl, hb⟩
  have hc : w1.cell? ⟨w.heap.size, 0, none⟩ = some (.int .i64 c) := by
    rw [hb.cell (p := ⟨w.heap.size, 0, none⟩) (by simp)]
    exact World.cell?_setCell_same _ _ _ (show (w.alloc (.cells #[.int .i64 0] 34)).cell? ⟨w.heap.size, 0, none⟩ = some (.int .i64 0) by simp)
  go_wp2
  go_ret
  exact ⟨rfl, (hb0.setCell (p := ⟨w.heap.size, 0, none⟩) (Nat.le_refl _) _).trans (hb.mono (show w.heap.size ≤ (w.alloc (.cells #[.int .i64 0] 34)).heap.size by simp))⟩
theorem Code_nil (w : World) : Calls Tryd.prog 9 #[.nilIface] w fun e w' => e = .returned (.int .i64 0) ∧ w' = w := by
  go_enter Tryd.func9, Tryd.ntmps9
  go_wp2
  go_ret
  exact ⟨rfl, rfl⟩
end Go.Proofs.YtppapffkidkonaaDoor
