import Derived.Test.YtjilenmngokhpaaDoorV15
/- Each operation that makes or writes memory comes to what is reckoned. -/
namespace Go.V
open Go

section
variable {P : Program} {w : World} {loc : Loc} {H : Heap}

/-- nil as a block of the call's own that has nothing yet -/
theorem nil_block (hI : HeapInv w loc H) (te : TypeId) (e : Shape) :
    ∃ loc', HeapInv w loc' (H ++ [some ⟨te, 0, true, .arr 0 e, .agg []⟩]) ∧ Ext w loc H.length w loc' ∧ Rep w loc' (H.length + 1) [.slice none 0 0] (.own H.length 0 [] 0 0 e) := by
  have hE : Ext w loc H.length w (updL loc H.length ⟨0, .arr 0 e, none, 0⟩) := by
    refine ⟨rfl, rfl, rfl, Nat.le_refl _, fun _ _ _ => rfl, ?_, ?_⟩
    · intro b l' h
      unfold updL at h
      split at h
      · exact .inl (by omega)
      · exact .inr ⟨l', h, .inl rfl⟩
    · intro b l' k h hk
      unfold updL at h
      split at h
      · cases h; cases hk
      · exact .inr ⟨b, l', h, hk⟩
  refine ⟨updL loc H.length ⟨0, .arr 0 e, none, 0⟩, ⟨?_, ?_, ?_⟩, hE, ?_⟩
  · intro b hb
    rcases Nat.lt_trichotomy b H.length with h | h | h
    · rw [Heap.get_append _ _ _ h] at hb
      unfold updL
      rw [if_neg (by omega)]
      exact hI.out b hb
    · subst h
      rw [Heap.get_append_right _ _ _ (Nat.le_refl _)] at hb
      simp [Heap.get] at hb
    · unfold updL
      rw [if_neg (by omega)]
      refine hI.out b ?_
      simp [Heap.get, List.getElem?_eq_none (Nat.le_of_lt h)]
  · intro b blk' hb
    rcases Nat.lt_trichotomy b H.length with h | h | h
    · rw [Heap.get_append _ _ _ h] at hb
      obtain ⟨l, hl, hB⟩ := hI.blk b blk' hb
      exact ⟨l, by unfold updL; rw [if_neg (by omega)]; exact hl, hB.mono hE (by simp) fun k hk => rfl⟩
    · subst h
      rw [Heap.get_append_right _ _ _ (Nat.le_refl _)] at hb
      simp [Heap.get] at hb
      subst hb
      exact ⟨⟨0, .arr 0 e, none, 0⟩, by simp [updL], rfl, rfl, hasSh_arr_agg.2 ⟨rfl, by simp⟩, rfl, e, rfl⟩
    · simp [Heap.get, List.getElem?_eq_none (show (H ++ [some (⟨te, 0, true, .arr 0 e, .agg []⟩ : Blk)]).length ≤ b by simp; omega)] at hb
  · intro b b' l l' k h h' hk hk'
    unfold updL at h h'
    split at h <;> split at h'
    · omega
    · cases h; cases hk
    · cases h'; cases hk'
    · exact hI.inj b b' l l' k h h' hk hk'
  · refine .own _ _ _ _ _ _ _ _ (by omega) (fun l hl => ?_) (Nat.le_refl _) (fun h => absurd h (by omega)) (by simp [maxLen]) (fun l hl _ => ?_)
    · simp [updL] at hl; subst hl; exact Nat.le_refl _
    · simp [updL] at hl; subst hl; exact ⟨rfl, rfl, rfl, rfl, rfl⟩

theorem set_append_last (H : Heap) (x y : Option Blk) : (H ++ [x]).set H.length y = H ++ [y] := by
  apply List.ext_getElem?
  intro i
  rw [List.getElem?_set]
  split
  · rename_i h; subst h; simp
  · rename_i h
    rcases Nat.lt_or_ge i H.length with hi | hi
    · rw [List.getElem?_append_left hi, List.getElem?_append_left hi]
    · rw [List.getElem?_append_right hi, List.getElem?_append_right hi]
      have : i - H.length ≠ 0 := by omega
      simp [this]

theorem get_append_last (H : Heap) (x : Blk) : Heap.get (H ++ [some x]) H.length = some x := by simp [Heap.get]

/-- append, its source being known -/
theorem app_nil (hI : HeapInv w loc H) {t t2 e : TypeId} {s : Shape} {z : AV} {i : TypeInfo} {d2 : TypeDesc} (ht : P.underlying t = some (.slice e)) (h2 : P.underlying t2 = some d2) (hd2 : ∀ k, d2 ≠ .int k) (hi : P.info? e = some i) (hz : ZeroOk P e s z)
    {xv : Value} {qs : List AV} {news : List Value} (n1 : Rep w loc H.length news (.agg qs)) (n2 : ∀ w', w'.heap = w.heap → (Builtin.lenOf xv).run P w' = .ok qs.length w')
    (n3 : ∀ w', w'.heap = w.heap → (Builtin.firstCells i.size qs.length xv).run P w' = .ok news.toArray w')
    (hqs : ∀ q ∈ qs, HasSh s q) (hm : qs.length ≤ maxLen) (hb : qs.length * i.bytes ≤ 140737488355328) (ty : TypeId) :
    ∃ v w' loc', (Builtin.append_ #[t, t2] ty #[.slice none 0 0, xv]).run P w = .ok v w' ∧ HeapInv w' loc' (H ++ [some ⟨e, 1, true, .arr qs.length s, .agg qs⟩]) ∧ Ext w loc H.length w' loc' ∧ RepV w' loc' (H.length + 1) v (.own H.length 1 [] 0 qs.length s) := by
  obtain ⟨j, u, g1, g2, g3, g4, g5⟩ := hz.tyOk_size
  rw [hi] at g1; cases g1
  obtain ⟨loc1, hI1, hE1, hr1⟩ := nil_block hI e s
  have n1' := n1.mono (N' := H.length + 1) hE1 (by omega)
  have hrr : Rep w loc1 (H ++ [some (⟨e, 0, true, .arr 0 s, .agg []⟩ : Blk)]).length [.slice none 0 0] (.own H.length 0 [] 0 0 s) := by simpa using hr1
  obtain ⟨v', w', loc', r1, r2, r3, r4⟩ := append_heap (P := P) hI1 hrr (get_append_last H _) rfl rfl rfl rfl t t2 ty i u d2 ht hi g2 g4 g3 h2 hd2 xv qs.length news qs n2 n3 (by simpa using n1') rfl hqs (by omega) (by simpa using hb)
  rw [set_append_last] at r2
  simp only [Nat.zero_add, List.nil_append, List.length_append, List.length_singleton] at r2 r3 r4
  exact ⟨v', w', loc', r1, r2, hE1.trans r3 (by omega), .cell _ _ rfl r4⟩

end
end Go.V
