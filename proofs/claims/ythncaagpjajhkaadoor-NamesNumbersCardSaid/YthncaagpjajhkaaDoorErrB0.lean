import Derived.Test.YthncaagpjajhkaaDoorErrA0
namespace Go.Proofs.YthncaagpjajhkaaDoor
open Go.RowKit Go.Extern.Stop Go.Stop Go.Extern
set_option linter.unusedVariables false
set_option linter.unusedSimpArgs false

/-- The Value of the target: a variable of the call's own that holds the target's address. -/
def tgt (V : Nat) : Value := .agg #[.pointer (some ⟨4, 37, none⟩), .pointer (some ⟨V, 0, none⟩), .int .u64 150]
/-- errors.as at an Errno: true; the target holds it. -/
theorem as_errno (c : Int) (V t : Nat) (tg : Value) (old : Value) (w : World) (hV : w.cell? ⟨V, 0, none⟩ = some (.pointer (some ⟨t, 0, none⟩))) (ht : w.cell? ⟨t, 0, none⟩ = some old) (hf : w.frozen? ⟨t, 0, none⟩ = false) :
    Calls Tryd.prog 13 #[.iface 26 (.int .i64 c), tg, .agg #[.pointer (some ⟨4, 37, none⟩), .pointer (some ⟨V, 0, none⟩), .int .u64 150], .iface 52 (.agg #[.pointer (some ⟨4, 26, none⟩)])] w fun e w' => e = .returned (.bool true) ∧
      w' = ((w.setCell ⟨t, 0, none⟩ (.int .i64 c)).alloc (.cells #[.pointer (some ⟨4, 37, none⟩), .pointer (some ⟨V, 0, none⟩), .int .u64 150] 41)).alloc (.cells #[.int .i64 c] 26) := by
  have hT := @run_callFunc_extern Tryd.prog 15 _ ReflectliteType.typeOf Tryd.func15 (by kernel_rfl) (by kernel_rfl) (by kernel_rfl) (by kernel_rfl)
  have hA := @run_callFunc_extern Tryd.prog 52 _ (ReflectliteType.relation "AssignableTo" ReflectliteType.assignableTo) Tryd.func52 (by kernel_rfl) (by kernel_rfl) (by kernel_rfl) (by kernel_rfl)
  have hE := @run_callFunc_extern Tryd.prog 16 _ (ReflectliteValue.method (ReflectliteValue.valueError "reflectlite.Value.Elem" 0) ReflectliteValue.elem) Tryd.func16 (by kernel_rfl) (by kernel_rfl) (by kernel_rfl) (by kernel_rfl)
  have hO := @run_callFunc_extern Tryd.prog 10 _ (fun args => ReflectliteValue.unpack (args.getD 0 (.tuple #[]))) Tryd.func10 (by kernel_rfl) (by kernel_rfl) (by kernel_rfl) (by kernel_rfl)
  have hS := @run_callFunc_extern Tryd.prog 17 _ ReflectliteValue.set Tryd.func17 (by kernel_rfl) (by kernel_rfl) (by kernel_rfl) (by kernel_rfl)
  have tO := E.typeOfE
  have mA := E.methodAssignableTo
  have aS := E.assignableE
  have vE := E.valueOfE
  have hVl : V < w.heap.size := by
    rcases Nat.lt_or_ge V w.heap.size with h | h
    · exact h
    · simp [World.cell?, Array.getElem?_eq_none h] at hV
  have htl : t < w.heap.size := by
    rcases Nat.lt_or_ge t w.heap.size with h | h
    · exact h
    · simp [World.cell?, Array.getElem?_eq_none h] at ht
  have el := E.elemV ⟨V, 0, none⟩ ⟨t, 0, none⟩ (w.alloc (.cells #[.pointer (some ⟨4, 37, none⟩), .pointer (some ⟨V, 0, none⟩), .int .u64 150] 41)) (by rw [World.cell?_alloc_lt _ _ ⟨V, 0, none⟩ hVl]; exact hV)
  have st := E.setE ⟨t, 0, none⟩ ⟨w.heap.size + 1, 0, none⟩ c old ((w.alloc (.cells #[.pointer (some ⟨4, 37, none⟩), .pointer (some ⟨V, 0, none⟩), .int .u64 150] 41)).alloc (.cells #[.int .i64 c] 26))
    (by rw [World.cell?_alloc_at _ _ _ _ (by simp)]; rfl)
    (by rw [World.cell?_alloc_lt _ _ ⟨t, 0, none⟩ (by simp; omega), World.cell?_alloc_lt _ _ ⟨t, 0, none⟩ htl]; exact ht)
    (by rw [World.frozen?_alloc_old _ _ ⟨t, 0, none⟩ (by simp; omega), World.frozen?_alloc_old _ _ ⟨t, 0, none⟩ (Nat.ne_of_lt htl)]; exact hf)
  go_enter Tryd.func13, Tryd.ntmps13
  go_wp2
  refine wp_loop_rounds 1 ?_
  rw [rounds_succ]
  go_wp2
  go_ret
  exact ⟨rfl, rfl⟩

end Go.Proofs.YthncaagpjajhkaaDoor
