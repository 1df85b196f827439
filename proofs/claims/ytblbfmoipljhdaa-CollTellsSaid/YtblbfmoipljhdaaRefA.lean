import Derived.Test.YtblbfmoipljhdaaSortK
import Derived.Deep.RegionLaw
import Derived.Deep.AppendSrc
import Derived.Deep.Upon
import Derived.Maps.AppendAt
namespace Go.Proofs.Ytblbfmoipljhdaa
open Go.RowKit
set_option linter.unusedVariables false
set_option linter.unusedSimpArgs false

section
variable {P : Program} (w : World)
/-- What is appended: a slice that has cells, or the nil slice. -/
def SrcAny (x : Value) (m : Nat) (news : List Value) : Prop := (∃ ad c, x = .slice (some ad) m c ∧ ∀ j u, news[j]? = some u → w.cell? (ad.add j) = some u) ∨ (x = .slice none 0 0 ∧ m = 0)
theorem run_append_any (t ty : TypeId) (base : Nat) (e : TypeId) (i : TypeInfo) (z : Value) (size bytes : Nat) (ht : P.underlying t = some (.slice e)) (hi : P.info? e = some i) (hz : i.zero = some z)
    (hsize : i.size = size) (hby : i.bytes = bytes) (hzs : z.cells.size = size) (hsz : 0 < size)
    (v : Value) (n : Nat) (xs : List Value) (hown : w.ownsRow base e size v n xs)
    (x : Value) (m : Nat) (news : List Value) (hs : SrcAny w x m news) (hl : news.length = m * size) (h1 : ∀ u ∈ news, u.oneCell' = true)
    (h63 : n + m ≤ maxLen) (hbytes : (n + m) * bytes ≤ 140737488355328) (hbase : base ≤ w.heap.size) :
    ∃ v' w', (Builtin.append_ #[t, t] ty #[v, x]).run P w = .ok v' w' ∧ w'.ownsRow base e size v' (n + m) (xs ++ news) ∧ w.grownBy w' v.ownBlock ∧ (v'.ownBlock = v.ownBlock ∨ v'.ownBlock = some w.heap.size) := by
  rcases hs with ⟨ad, c, rfl, hnews⟩ | ⟨rfl, rfl⟩
  · obtain ⟨v', w', hr, h2, h3, _, h5⟩ := run_append_own_at (P := P) w base t ty e i z size bytes ht hi hz hsize hby hzs hsz v n xs hown ad m c news hl hnews h1 h63 hbytes hbase
    exact ⟨v', w', hr, h2, h3, h5⟩
  · have hn0 : news = [] := by apply List.eq_nil_of_length_eq_zero; omega
    subst hn0
    obtain ⟨A, cap, rfl, hle⟩ := row_form0 hown
    refine ⟨_, w, run_append_nothing w t t ty e i ht hi A n cap hle _ (hsize ▸ Src.ofNil w ht 0), ?_, ⟨rfl, rfl, rfl, Nat.le_refl _, fun _ _ _ => rfl⟩, .inl rfl⟩
    rw [List.append_nil]; exact hown
theorem wp_append_any {o : Oper} {a : Act} {K : Act → World → Prop} {Q : Exit → Act → World → Prop} (s x : Operand) (t : TypeId)
    (ho : o.op = .call { callee := .builtin .append, args := #[s, x], argTypes := #[t, t] })
    (base : Nat) (e : TypeId) (i : TypeInfo) (z : Value) (size bytes : Nat) (ht : P.underlying t = some (.slice e)) (hi : P.info? e = some i) (hz : i.zero = some z)
    (hsize : i.size = size) (hby : i.bytes = bytes) (hzs : z.cells.size = size) (hsz : 0 < size)
    (v : Value) (n : Nat) (xs : List Value) (hs : a.eval s = v) (hown : w.ownsRow base e size v n xs)
    (xv : Value) (m : Nat) (news : List Value) (hx : a.eval x = xv) (hsrc : SrcAny w xv m news) (hl : news.length = m * size) (h1 : ∀ u ∈ news, u.oneCell' = true)
    (h63 : n + m ≤ maxLen) (hbytes : (n + m) * bytes ≤ 140737488355328) (hbase : base ≤ w.heap.size)
    (h : ∀ v' w', w'.ownsRow base e size v' (n + m) (xs ++ news) → w.grownBy w' v.ownBlock → (v'.ownBlock = v.ownBlock ∨ v'.ownBlock = some w.heap.size) → K (a.put o.dst v') w') : o.wp P a w K Q := by
  obtain ⟨v', w', hr, h2, h3, h4⟩ := run_append_any (P := P) w t o.type base e i z size bytes ht hi hz hsize hby hzs hsz v n xs hown xv m news hsrc hl h1 h63 hbytes hbase
  unfold Oper.wp execOp
  simp only [ho, resolve, invoke, builtin, Sem.run_bind, Sem.run_pure, Result.andThen_ok, List.map_toArray, List.map_cons, List.map_nil, hs, hx, hr]
  exact h v' w' h2 h3 h4
theorem wpList_append_any {ops : Array Oper} {rest : List Oper} {o : Oper} {a : Act} {Q : Exit → Act → World → Prop} (hgd : o.guard = none) (s x : Operand) (t : TypeId)
    (ho : o.op = .call { callee := .builtin .append, args := #[s, x], argTypes := #[t, t] })
    (base : Nat) (e : TypeId) (i : TypeInfo) (z : Value) (size bytes : Nat) (ht : P.underlying t = some (.slice e)) (hi : P.info? e = some i) (hz : i.zero = some z)
    (hsize : i.size = size) (hby : i.bytes = bytes) (hzs : z.cells.size = size) (hsz : 0 < size)
    (v : Value) (n : Nat) (xs : List Value) (hs : a.eval s = v) (hown : w.ownsRow base e size v n xs)
    (xv : Value) (m : Nat) (news : List Value) (hx : a.eval x = xv) (hsrc : SrcAny w xv m news) (hl : news.length = m * size) (h1 : ∀ u ∈ news, u.oneCell' = true)
    (h63 : n + m ≤ maxLen) (hbytes : (n + m) * bytes ≤ 140737488355328) (hbase : base ≤ w.heap.size)
    (h : ∀ v' w', w'.ownsRow base e size v' (n + m) (xs ++ news) → w.grownBy w' v.ownBlock → (v'.ownBlock = v.ownBlock ∨ v'.ownBlock = some w.heap.size) → wpList P ops Q rest (a.put o.dst v') w') : wpList P ops Q (o :: rest) a w :=
  wpList_plain hgd fun _ hK => wp_append_any w s x t ho base e i z size bytes ht hi hz hsize hby hzs hsz v n xs hs hown xv m news hx hsrc hl h1 h63 hbytes hbase fun v' w' h2 h3 h4 => hK _ _ (h v' w' h2 h3 h4)
theorem step_append_any {ops : Array Oper} {o : Oper} {a : Act} {K : Act → World → Prop} {Q : Exit → Act → World → Prop} {E : Prop} (hgd : o.guard = none) (s x : Operand) (t : TypeId)
    (ho : o.op = .call { callee := .builtin .append, args := #[s, x], argTypes := #[t, t] })
    (base : Nat) (e : TypeId) (i : TypeInfo) (z : Value) (size bytes : Nat) (ht : P.underlying t = some (.slice e)) (hi : P.info? e = some i) (hz : i.zero = some z)
    (hsize : i.size = size) (hby : i.bytes = bytes) (hzs : z.cells.size = size) (hsz : 0 < size)
    (v : Value) (n : Nat) (xs : List Value) (hs : a.eval s = v) (hown : w.ownsRow base e size v n xs)
    (xv : Value) (m : Nat) (news : List Value) (hx : a.eval x = xv) (hsrc : SrcAny w xv m news) (hl : news.length = m * size) (h1 : ∀ u ∈ news, u.oneCell' = true)
    (h63 : n + m ≤ maxLen) (hbytes : (n + m) * bytes ≤ 140737488355328) (hbase : base ≤ w.heap.size)
    (h : ∀ v' w', w'.ownsRow base e size v' (n + m) (xs ++ news) → w.grownBy w' v.ownBlock → (v'.ownBlock = v.ownBlock ∨ v'.ownBlock = some w.heap.size) → K (a.put o.dst v') w') :
    if Region.wanted o (yielded ops a.tmps) = true then Oper.wp P o a w K Q else E := by
  have hw : Region.wanted o (yielded ops a.tmps) = true := by simp [Region.wanted, hgd]
  rw [if_pos hw]
  exact wp_append_any w s x t ho base e i z size bytes ht hi hz hsize hby hzs hsz v n xs hs hown xv m news hx hsrc hl h1 h63 hbytes hbase h
end

/-! ### the reference's order -/
def rC (r : Nat → Int) (i : Nat) : List Value := (List.range i).map fun (p : Nat) => Value.int .i64 (r p)
theorem rC_length (r : Nat → Int) (i : Nat) : (rC r i).length = i := by simp [rC]
theorem rC_get (r : Nat → Int) (i p : Nat) (h : p < i) : (rC r i)[p]? = some (.int .i64 (r p)) := by simp [rC, h]
def ins (r : Nat → Int) (k i : Nat) : Nat → Int := fun p => if p < k then r p else if p = k then (i : Int) else r (p - 1)
theorem rC_ins (r : Nat → Int) (k i : Nat) (h : k ≤ i) : rC r k ++ [.int .i64 (i : Int)] ++ (rC r i).drop k = rC (ins r k i) (i + 1) := by
  apply List.ext_getElem?
  intro p
  by_cases h1 : p < i + 1
  · rw [rC_get _ _ _ h1]
    unfold ins
    by_cases h2 : p < k
    · rw [if_pos h2, List.append_assoc, List.getElem?_append_left (by rw [rC_length]; exact h2), rC_get _ _ _ h2]
    · rw [if_neg h2]
      by_cases h3 : p = k
      · subst h3
        rw [if_pos rfl, List.getElem?_append_left (by simp [rC_length]), List.getElem?_append_right (by simp [rC_length])]
        simp [rC_length]
      · rw [if_neg h3, List.getElem?_append_right (by simp [rC_length]; omega), List.getElem?_drop]
        simp only [List.length_append, rC_length, List.length_singleton]
        rw [show k + (p - (k + 1)) = p - 1 by omega, rC_get _ _ _ (by omega)]
  · rw [List.getElem?_eq_none (by simp [rC_length]; omega), List.getElem?_eq_none (by simp [rC_length]; omega)]
/-- What the reference's row holds. -/
structure Ro (K : Int → Int) (r : Nat → Int) (i : Nat) : Prop where
  so : So K r 0 i
  val : ∀ p, p < i → ∃ l : Nat, l < i ∧ r p = (l : Int)
theorem Ro.ins {K : Int → Int} {r : Nat → Int} {i k : Nat} (h : Ro K r i) (hk : k ≤ i) (hi : ∀ p, k ≤ p → p < i → K (i : Int) < K (r p)) (lo : k = 0 ∨ ¬ K (i : Int) < K (r (k - 1))) : Ro K (Proofs.Ytblbfmoipljhdaa.ins r k i) (i + 1) := by
  have low : ∀ p, p < k → lex K (r p) (i : Int) := by
    intro p hp
    rcases lo with e | e
    · omega
    · obtain ⟨l, hl, el⟩ := h.val (k - 1) (by omega)
      have h1 : lex K (r (k - 1)) (i : Int) := by unfold lex; rw [el] at e ⊢; omega
      by_cases e2 : p = k - 1
      · rw [e2]; exact h1
      · exact (h.so p (k - 1) (by omega) (by omega) (by omega)).trans h1
  refine ⟨fun p q h1 h2 h3 => ?_, fun p hp => ?_⟩
  · unfold Proofs.Ytblbfmoipljhdaa.ins
    by_cases a1 : p < k
    · rw [if_pos a1]
      by_cases a2 : q < k
      · rw [if_pos a2]; exact h.so p q h1 h2 (by omega)
      · rw [if_neg a2]
        by_cases a3 : q = k
        · rw [if_pos a3]; exact low p a1
        · rw [if_neg a3]; exact h.so p (q - 1) h1 (by omega) (by omega)
    · rw [if_neg a1]
      by_cases a3 : p = k
      · rw [if_pos a3, if_neg (by omega), if_neg (by omega)]
        exact .inl (hi (q - 1) (by omega) (by omega))
      · rw [if_neg a3, if_neg (by omega), if_neg (by omega)]
        exact h.so (p - 1) (q - 1) (by omega) (by omega) (by omega)
  · unfold Proofs.Ytblbfmoipljhdaa.ins
    by_cases a1 : p < k
    · rw [if_pos a1]; obtain ⟨l, hl, e⟩ := h.val p (by omega); exact ⟨l, by omega, e⟩
    · rw [if_neg a1]
      by_cases a3 : p = k
      · rw [if_pos a3]; exact ⟨i, by omega, rfl⟩
      · rw [if_neg a3]; obtain ⟨l, hl, e⟩ := h.val (p - 1) (by omega); exact ⟨l, by omega, e⟩
theorem ident' {g : Nat → Int} {n : Nat} (hv : ∀ i, i < n → ∃ l : Nat, l < n ∧ g i = (l : Int)) (hs : ∀ i j, i < j → j < n → g i < g j) : ∀ i, i < n → g i = (i : Int) := by
  have lo : ∀ i, i < n → (i : Int) ≤ g i := by
    intro i
    induction i with
    | zero => intro h; obtain ⟨l, _, e⟩ := hv 0 h; omega
    | succ i ih =>
      intro h
      have := ih (by omega)
      have := hs i (i + 1) (by omega) h
      omega
  have hi : ∀ k, k < n → g (n - 1 - k) ≤ ((n - 1 - k : Nat) : Int) := by
    intro k
    induction k with
    | zero => intro h; obtain ⟨l, h2, e⟩ := hv (n - 1 - 0) (by omega); omega
    | succ k ih =>
      intro h
      have h1 := ih (by omega)
      have h2 := hs (n - 1 - (k + 1)) (n - 1 - k) (by omega) (by omega)
      omega
  intro i h
  have h1 := lo i h
  have h2 := hi (n - 1 - i) (by omega)
  rw [show n - 1 - (n - 1 - i) = i by omega] at h2
  omega
/-- There is one such row. -/
theorem same_row {K : Int → Int} {g r : Nat → Int} {n : Nat} (hp : Pm 0 n idf g) (hs : So K g 0 n) (hr : Ro K r n) : ∀ i, i < n → g i = r i := by
  have tau : ∀ i, ∃ j : Nat, i < n → j < n ∧ r i = g j := by
    intro i
    by_cases h : i < n
    · obtain ⟨l, hl, e⟩ := hr.val i h
      obtain ⟨j, _, h2, e2⟩ := hp.to l (by omega) hl
      exact ⟨j, fun _ => ⟨h2, by rw [e, ← e2]; rfl⟩⟩
    · exact ⟨0, fun h' => absurd h' h⟩
  obtain ⟨t, ht⟩ : ∃ t : Nat → Nat, ∀ i, i < n → t i < n ∧ r i = g (t i) := ⟨fun i => Classical.choose (tau i), fun i => Classical.choose_spec (tau i)⟩
  have hid := ident' (g := fun i => (t i : Int)) (n := n) (fun i hi => ⟨t i, (ht i hi).1, rfl⟩) (fun i j hij hj => by
    have h1 := hr.so i j (by omega) hij hj
    rw [(ht i (by omega)).2, (ht j hj).2] at h1
    rcases Nat.lt_trichotomy (t i) (t j) with h | h | h
    · show (t i : Int) < (t j : Int); omega
    · rw [h] at h1; exact absurd h1 lex.irrefl
    · have h2 := hs (t j) (t i) (by omega) h (ht i (by omega)).1
      exact absurd (h1.trans h2) lex.irrefl)
  intro i hi
  have h1 : (t i : Int) = (i : Int) := hid i hi
  rw [(ht i hi).2, show t i = i by omega]
end Go.Proofs.Ytblbfmoipljhdaa
