import Derived.Test.YthncaagpjajhkaaDoorErrB0
namespace Go.Proofs.YthncaagpjajhkaaDoor
open Go.RowKit Go.Extern.Stop Go.Stop Go.Extern
set_option linter.unusedVariables false
set_option linter.unusedSimpArgs false

/-- The listed variable errors.errorType. -/
def ErrType (w : World) : Prop := w.cell? ⟨0, 0, none⟩ = some (.iface 52 (.agg #[.pointer (some ⟨4, 31, none⟩)]))
theorem ErrType.lt {w : World} (h : ErrType w) : 0 < w.heap.size := by
  rcases Nat.lt_or_ge 0 w.heap.size with h' | h'
  · exact h'
  · unfold ErrType at h
    simp [World.cell?, Array.getElem?_eq_none h'] at h
theorem ErrType.below {w w' : World} (h : ErrType w) (hb : Below w.heap.size w w') : ErrType w' := (hb.cell (p := ⟨0, 0, none⟩) h.lt).trans h

theorem E.typeOfF (v : Value) (w : World) : (ReflectliteType.typeOf #[.iface 29 v]).run Tryd.prog w = .ok (.iface 52 (.agg #[.pointer (some ⟨4, 29, none⟩)])) w := by kernel_rfl
theorem E.assignableF (w : World) : (ReflectliteType.relation "AssignableTo" ReflectliteType.assignableTo #[.agg #[.pointer (some ⟨4, 29, none⟩)], .iface 52 (.agg #[.pointer (some ⟨4, 26, none⟩)])]).run Tryd.prog w = .ok (.bool false) w := by kernel_rfl
theorem E.methodUnwrapF (h : Value) (w : World) : (Go.method 211 29 h "Unwrap").run Tryd.prog w = .ok (47, h) w := by kernel_rfl
theorem E.fAs (v : Value) (xT : TypeId) (w : World) : (Instr.typeAssert (.iface 29 v) xT 57 true).run Tryd.prog w = .ok (.tuple #[.nilIface, .bool false]) w := run_typeAssert_lacksB Tryd.underlying57 (by kernel_rfl) (by kernel_rfl) v xT w
theorem E.fUn (v : Value) (xT : TypeId) (w : World) : (Instr.typeAssert (.iface 29 v) xT 60 true).run Tryd.prog w = .ok (.tuple #[.iface 29 v, .bool true]) w := run_typeAssert_hasB Tryd.underlying60 (by kernel_rfl) v xT w

theorem faultUnwrap (p : Nat) (v : Value) (w : World) (hj : w.cell? ⟨p, 1, none⟩ = some v) :
    Calls Tryd.prog 47 #[.pointer (some ⟨p, 0, none⟩)] w fun e w' => e = .returned v ∧ w' = w := by
  go_enter Tryd.func47, Tryd.ntmps47
  go_wp2
  go_ret
  exact ⟨rfl, rfl⟩

set_option maxHeartbeats 2000000 in
theorem as_fault (p : Nat) (c : Int) (V t : Nat) (tg : Value) (old : Value) (w : World) (hp : w.cell? ⟨p, 1, none⟩ = some (.iface 26 (.int .i64 c)))
    (hV : w.cell? ⟨V, 0, none⟩ = some (.pointer (some ⟨t, 0, none⟩))) (ht : w.cell? ⟨t, 0, none⟩ = some old) (hf : w.frozen? ⟨t, 0, none⟩ = false) :
    Calls Tryd.prog 13 #[.iface 29 (.pointer (some ⟨p, 0, none⟩)), tg, .agg #[.pointer (some ⟨4, 37, none⟩), .pointer (some ⟨V, 0, none⟩), .int .u64 150], .iface 52 (.agg #[.pointer (some ⟨4, 26, none⟩)])] w fun e w' => e = .returned (.bool true) ∧ Below w.heap.size (w.setCell ⟨t, 0, none⟩ (.int .i64 c)) w' := by
  have lt_of : ∀ {k o : Nat} {v : Value}, w.cell? ⟨k, o, none⟩ = some v → k < w.heap.size := fun {k o v} h => by
    rcases Nat.lt_or_ge k w.heap.size with h' | h'
    · exact h'
    · simp [World.cell?, Array.getElem?_eq_none h'] at h
  have pl := lt_of hp
  have hVl := lt_of hV
  have htl := lt_of ht
  have hT := @run_callFunc_extern Tryd.prog 15 _ ReflectliteType.typeOf Tryd.func15 (by kernel_rfl) (by kernel_rfl) (by kernel_rfl) (by kernel_rfl)
  have hA := @run_callFunc_extern Tryd.prog 52 _ (ReflectliteType.relation "AssignableTo" ReflectliteType.assignableTo) Tryd.func52 (by kernel_rfl) (by kernel_rfl) (by kernel_rfl) (by kernel_rfl)
  have hE := @run_callFunc_extern Tryd.prog 16 _ (ReflectliteValue.method (ReflectliteValue.valueError "reflectlite.Value.Elem" 0) ReflectliteValue.elem) Tryd.func16 (by kernel_rfl) (by kernel_rfl) (by kernel_rfl) (by kernel_rfl)
  have hO := @run_callFunc_extern Tryd.prog 10 _ (fun args => ReflectliteValue.unpack (args.getD 0 (.tuple #[]))) Tryd.func10 (by kernel_rfl) (by kernel_rfl) (by kernel_rfl) (by kernel_rfl)
  have hS := @run_callFunc_extern Tryd.prog 17 _ ReflectliteValue.set Tryd.func17 (by kernel_rfl) (by kernel_rfl) (by kernel_rfl) (by kernel_rfl)
  have tO := E.typeOfF
  have aS := E.assignableF
  have tO2 := E.typeOfE
  have mA := E.methodAssignableTo
  have aS2 := E.assignableE
  have vE := E.valueOfE
  have s1 := E.fAs
  have s2 := E.fUn
  have mU := E.methodUnwrapF
  have el := E.elemV ⟨V, 0, none⟩ ⟨t, 0, none⟩ (w.alloc (.cells #[.pointer (some ⟨4, 37, none⟩), .pointer (some ⟨V, 0, none⟩), .int .u64 150] 41)) (by rw [World.cell?_alloc_lt _ _ ⟨V, 0, none⟩ hVl]; exact hV)
  have st := E.setE ⟨t, 0, none⟩ ⟨w.heap.size + 1, 0, none⟩ c old ((w.alloc (.cells #[.pointer (some ⟨4, 37, none⟩), .pointer (some ⟨V, 0, none⟩), .int .u64 150] 41)).alloc (.cells #[.int .i64 c] 26))
    (by rw [World.cell?_alloc_at _ _ _ _ (by simp)]; rfl)
    (by rw [World.cell?_alloc_lt _ _ ⟨t, 0, none⟩ (by simp; omega), World.cell?_alloc_lt _ _ ⟨t, 0, none⟩ htl]; exact ht)
    (by rw [World.frozen?_alloc_old _ _ ⟨t, 0, none⟩ (by simp; omega), World.frozen?_alloc_old _ _ ⟨t, 0, none⟩ (Nat.ne_of_lt htl)]; exact hf)
  go_enter Tryd.func13, Tryd.ntmps13
  go_wp2
  refine wp_loop_rounds 2 ?_
  rw [rounds_succ]
  go_wp2_with fail
  refine (faultUnwrap p (.iface 26 (.int .i64 c)) _ (by rw [World.cell?_alloc_lt _ _ ⟨p, 1, none⟩ pl]; exact hp)).mono ?_
  rintro e w1 ⟨rfl, rfl⟩
  go_wp2_with fail
  rw [rounds_succ]
  go_wp2
  go_ret
  refine ⟨rfl, ?_⟩
  exact (((Below.refl w.heap.size (w.setCell ⟨t, 0, none⟩ (.int .i64 c))).alloc (by simp) _).alloc (by first | (simp; done) | (simp; omega)) _)

set_option maxHeartbeats 4000000 in
theorem As_fault (p t : Nat) (c : Int) (old : Value) (w : World) (hg0 : ErrType w) (hp : w.cell? ⟨p, 1, none⟩ = some (.iface 26 (.int .i64 c))) (ht : w.cell? ⟨t, 0, none⟩ = some old) (hf : w.frozen? ⟨t, 0, none⟩ = false) :
    Calls Tryd.prog 8 #[.iface 29 (.pointer (some ⟨p, 0, none⟩)), .iface 37 (.pointer (some ⟨t, 0, none⟩))] w fun e w' => e = .returned (.bool true) ∧ Below w.heap.size (w.setCell ⟨t, 0, none⟩ (.int .i64 c)) w' := by
  have hg : w.cell? ⟨0, 0, none⟩ = some (.iface 52 (.agg #[.pointer (some ⟨4, 31, none⟩)])) := hg0
  have hgl := hg0.lt
  clear hg0
  have lt_of : ∀ {k o : Nat} {v : Value}, w.cell? ⟨k, o, none⟩ = some v → k < w.heap.size := fun {k o v} h => by
    rcases Nat.lt_or_ge k w.heap.size with h' | h'
    · exact h'
    · simp [World.cell?, Array.getElem?_eq_none h'] at h
  have pl := lt_of hp
  have tl := lt_of ht
  clear lt_of
  have h6 := @run_callFunc_extern Tryd.prog 10 _ (fun args => ReflectliteValue.unpack (args.getD 0 (.tuple #[]))) Tryd.func10 (by kernel_rfl) (by kernel_rfl) (by kernel_rfl) (by kernel_rfl)
  have h7 := @run_callFunc_extern Tryd.prog 11 _ (ReflectliteValue.methodAny (ReflectliteValue.valueError "reflectlite.Value.Type" 0) (fun t _ _ _ => ReflectliteType.toType t)) Tryd.func11 (by kernel_rfl) (by kernel_rfl) (by kernel_rfl) (by kernel_rfl)
  have h8 := @run_callFunc_extern Tryd.prog 12 _ (ReflectliteValue.method (ReflectliteValue.valueError "reflectlite.Value.IsNil" 0) ReflectliteValue.isNil) Tryd.func12 (by kernel_rfl) (by kernel_rfl) (by kernel_rfl) (by kernel_rfl)
  have h27 := @run_callFunc_extern Tryd.prog 43 _ (ReflectliteType.abiMethod fun t => do pure (.int .u8 (← Rtype.kind t))) Tryd.func43 (by kernel_rfl) (by kernel_rfl) (by kernel_rfl) (by kernel_rfl)
  have h37 := @run_callFunc_extern Tryd.prog 54 _ (ReflectliteType.method ReflectliteType.elem) Tryd.func54 (by kernel_rfl) (by kernel_rfl) (by kernel_rfl) (by kernel_rfl)
  have h38 := @run_callFunc_extern Tryd.prog 55 _ (ReflectliteType.relation "Implements" ReflectliteType.implements_) Tryd.func55 (by kernel_rfl) (by kernel_rfl) (by kernel_rfl) (by kernel_rfl)
  have f6 := E.valueOfP
  have f7 := E.typeP
  have mK := E.methodKind
  have mE := E.methodElem
  have mI := E.methodImplements
  have k1 := E.kindP
  have k2 := E.kindE
  have e1 := E.elemP
  have i1 := E.implementsE
  have n8 := E.isNilP ⟨w.heap.size, 0, none⟩ ⟨t, 0, none⟩ ((w.alloc (.cells #[.pointer (some ⟨t, 0, none⟩)] 37)).alloc (.cells #[.pointer (some ⟨4, 37, none⟩), .pointer (some ⟨w.heap.size, 0, none⟩), .int .u64 150] 41)) (by simp)
  have hg2 : ((w.alloc (.cells #[.pointer (some ⟨t, 0, none⟩)] 37)).alloc (.cells #[.pointer (some ⟨4, 37, none⟩), .pointer (some ⟨w.heap.size, 0, none⟩), .int .u64 150] 41)).cell? ⟨0, 0, none⟩ = some (.iface 52 (.agg #[.pointer (some ⟨4, 31, none⟩)])) := by
    rw [World.cell?_alloc_lt _ _ ⟨0, 0, none⟩ (by first | (simp; done) | (simp; omega)), World.cell?_alloc_lt _ _ ⟨0, 0, none⟩ hgl]; exact hg
  go_enter Tryd.func8, Tryd.ntmps8
  go_wp2_with fail
  refine (as_fault p c w.heap.size t _ old _ (by rw [World.cell?_alloc_lt _ _ ⟨p, 1, none⟩ (by first | (simp; done) | (simp; omega)), World.cell?_alloc_lt _ _ ⟨p, 1, none⟩ pl]; exact hp)
    (by rw [World.cell?_alloc_lt _ _ ⟨w.heap.size, 0, none⟩ (by simp)]; simp) (by rw [World.cell?_alloc_lt _ _ ⟨t, 0, none⟩ (by first | (simp; done) | (simp; omega)), World.cell?_alloc_lt _ _ ⟨t, 0, none⟩ tl]; exact ht) (by rw [World.frozen?_alloc_old _ _ ⟨t, 0, none⟩ (by first | (simp; done) | (simp; omega)), World.frozen?_alloc_old _ _ ⟨t, 0, none⟩ (Nat.ne_of_lt tl)]; exact hf)).mono ?_
  rintro e w1 ⟨rfl, hb⟩
  go_wp2
  go_ret
  refine ⟨rfl, ?_⟩
  rw [World.setCell_alloc_past _ _ _ _ (by first | (simp; done) | (simp; omega)), World.setCell_alloc_past _ _ _ _ tl] at hb
  exact (((Below.refl w.heap.size (w.setCell ⟨t, 0, none⟩ (.int .i64 c))).alloc (by simp) _).alloc (by first | (simp; done) | (simp; omega)) _).trans (hb.mono (by first | (simp; done) | (simp; omega)))

set_option maxHeartbeats 2000000 in
theorem Code_fault (p : Nat) (c : Int) (w : World) (hg : ErrType w) (hp : w.cell? ⟨p, 1, none⟩ = some (.iface 26 (.int .i64 c))) :
    Calls Tryd.prog 6 #[.iface 29 (.pointer (some ⟨p, 0, none⟩))] w fun e w' => e = .returned (.int .i64 c) ∧ Below w.heap.size w w' := by
  have hb0 : Below w.heap.size w (w.alloc (.cells #[.int .i64 0] 26)) := (Below.refl _ _).alloc (Nat.le_refl _) _
  have H := Lib.hid (As_fault p w.heap.size c (.int .i64 0) (w.alloc (.cells #[.int .i64 0] 26)) (hg.below hb0) ((hb0.cell (p := ⟨p, 1, none⟩) (by rcases Nat.lt_or_ge p w.heap.size with h' | h'; exact h'; simp [World.cell?, Array.getElem?_eq_none h'] at hp)).trans hp) (by simp) (by simp))
  clear hg hp
  go_enter Tryd.func6, Tryd.ntmps6
  go_wp2_with fail
  refine H.out.mono ?_
  clear H
  rintro e w1 ⟨rfl, hb⟩
  have hc : w1.cell? ⟨w.heap.size, 0, none⟩ = some (.int .i64 c) := by
    rw [hb.cell (p := ⟨w.heap.size, 0, none⟩) (by simp)]
    exact World.cell?_setCell_same _ _ _ (show (w.alloc (.cells #[.int .i64 0] 26)).cell? ⟨w.heap.size, 0, none⟩ = some (.int .i64 0) by simp)
  go_wp2
  go_ret
  exact ⟨rfl, (hb0.setCell (p := ⟨w.heap.size, 0, none⟩) (Nat.le_refl _) _).trans (hb.mono (show w.heap.size ≤ (w.alloc (.cells #[.int .i64 0] 26)).heap.size by simp))⟩
theorem Code_nil (w : World) : Calls Tryd.prog 6 #[.nilIface] w fun e w' => e = .returned (.int .i64 0) ∧ w' = w := by
  go_enter Tryd.func6, Tryd.ntmps6
  go_wp2
  go_ret
  exact ⟨rfl, rfl⟩
end Go.Proofs.YthncaagpjajhkaaDoor
