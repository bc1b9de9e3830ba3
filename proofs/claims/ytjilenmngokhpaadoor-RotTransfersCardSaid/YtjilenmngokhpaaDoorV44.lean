import Derived.Test.YtjilenmngokhpaaDoorV38
/- Memory that a function made, read as lists from some statement on. -/
namespace Go.V
open Go
section
variable {X : Cx} {Q : Exit → St → Prop} {st : St}

theorem thenQ_n {R : St → Prop} {Q : Exit → St → Prop} {st : St} : thenQ R Q .normal st = R st := rfl
theorem thenQ_r {R : St → Prop} {Q : Exit → St → Prop} {st : St} : thenQ R Q .ret st = Q .ret st := rfl
theorem thenQ_x {R : St → Prop} {Q : Exit → St → Prop} {st : St} {i : Nat} : thenQ R Q (.exit i) st = Q (.exit i) st := rfl

/-- The first statement reckoned, what follows it left to a law. -/
theorem WPS_seqS {x y : Scr} (h : wpS X x (thenQ (fun st => WPS X (DP X.P X.G X.vm X.n) y Q st) Q) st) : WPS X (DP X.P X.G X.vm X.n) (.seq x y) Q st := WPS_seq (wpS_ok h)

theorem mapO_at {f : AV → Option AV} : ∀ {xs ys : List AV}, mapO f xs = some ys → ∀ (i : Nat) (y : AV), ys[i]? = some y → ∃ x, xs[i]? = some x ∧ f x = some y := fun h => (mapO_get h).2

/-- From here on what lies in blocks that are not kept is read as lists. -/
theorem WPS_freeze {D : Nat → Array Oper → List Ins → Prop} {s : Scr} {env' : List AV} (kp : Nat → Bool) (d : Nat) (hm : mapO (demK kp st.h.length st.h d) st.env = some env') (h : WPS X D s Q ⟨env', kill kp 0 st.h⟩) : WPS X D s Q st := by
  intro c hc w0 loc0 a w hg
  refine h c hc w0 loc0 a w ?_
  obtain ⟨loc, e1, e2, e3, e4, e5, e6, e7⟩ := hg
  have hE : Ext w loc st.h.length w (mask loc kp) := ⟨rfl, rfl, rfl, Nat.le_refl _, fun _ _ _ => rfl, fun b l' hl => .inr ⟨l', (mask_some hl).2, .inl rfl⟩, fun b l' k hl hk => .inr ⟨b, l', (mask_some hl).2, hk⟩⟩
  obtain ⟨gl, gm⟩ := mapO_get hm
  refine ⟨mask loc kp, ⟨by rw [e1.len]; exact gl.symm, e1.nd, e1.lt, fun i sl av h1 h2 => ?_⟩, e2.kill kp, e3.mono hE, e4.trans hE e5, ?_, e6, e7⟩
  · obtain ⟨x, hx, hf⟩ := gm i av h2
    have := dem_repV e2 (kp := kp) (N := st.h.length) (fun _ _ h => h) (e1.rep i sl x h1 hx) d hf
    simpa only [kill_length] using this
  · simpa only [kill_length] using e5

/-- variables whose values are of no more use -/
def fgt : List Bool → List AV → List AV
  | true :: bs, _ :: es => .un :: fgt bs es
  | false :: bs, e :: es => e :: fgt bs es
  | [], es => es
  | _ :: _, [] => []
theorem fgt_len : ∀ {bs : List Bool} {es : List AV}, (fgt bs es).length = es.length
  | true :: bs, _ :: es => by simp [fgt, fgt_len]
  | false :: bs, e :: es => by simp [fgt, fgt_len]
  | [], es => rfl
  | true :: _, [] => rfl
  | false :: _, [] => rfl
theorem fgt_get : ∀ {bs : List Bool} {es : List AV} {i : Nat} {a : AV}, (fgt bs es)[i]? = some a → a = .un ∨ es[i]? = some a
  | true :: bs, _ :: es, 0, a, h => by simp [fgt] at h; exact .inl h.symm
  | true :: bs, _ :: es, i + 1, a, h => by simp [fgt] at h; simpa using fgt_get h
  | false :: bs, e :: es, 0, a, h => by simp [fgt] at h; exact .inr (by simp [h])
  | false :: bs, e :: es, i + 1, a, h => by simp [fgt] at h; simpa using fgt_get h
  | [], es, i, a, h => .inr h
  | true :: _, [], i, a, h => by simp [fgt] at h
  | false :: _, [], i, a, h => by simp [fgt] at h
theorem WPS_forget {D : Nat → Array Oper → List Ins → Prop} {s : Scr} {env : List AV} {H : Heap} (bs : List Bool) (h : WPS X D s Q ⟨fgt bs env, H⟩) : WPS X D s Q ⟨env, H⟩ := by
  intro c hc w0 loc0 a w hg
  refine h c hc w0 loc0 a w ?_
  obtain ⟨loc, e1, e2⟩ := hg
  refine ⟨loc, ⟨by rw [e1.len, fgt_len], e1.nd, e1.lt, fun i sl av h1 h2 => ?_⟩, e2⟩
  rcases fgt_get h2 with rfl | h3
  · exact .un _
  · exact e1.rep i sl av h1 h3
theorem mapO_ext {f : AV → Option AV} : ∀ {xs ys : List AV}, xs.length = ys.length → (∀ t, t < xs.length → f (xs.getD t .un) = some (ys.getD t .un)) → mapO f xs = some ys
  | [], [], _, _ => rfl
  | x :: xs, y :: ys, hl, h => by
    have h0 : f x = some y := by simpa using h 0 (by simp)
    have h1 := mapO_ext (f := f) (xs := xs) (ys := ys) (by simpa using hl) fun t ht => by simpa using h (t + 1) (by simpa using ht)
    simp only [mapO, h0, h1]

theorem kill_all {H : Heap} : ∀ {L : Heap} {i : Nat}, H.length ≤ i → kill (fun b => decide (b < H.length)) i L = L.map fun _ => none
  | [], _, _ => rfl
  | x :: L, i, h => by
    simp only [kill, List.map_cons]
    rw [kill_all (by omega), if_neg (by simp; omega)]
theorem kill_keep {k : Nat} : ∀ {H : Heap} {i : Nat}, i + H.length ≤ k → kill (fun b => decide (b < k)) i H = H
  | [], _, _ => rfl
  | x :: H, i, h => by
    simp only [List.length_cons] at h
    simp only [kill]
    rw [kill_keep (by omega), if_pos (by simp; omega)]
theorem kill_app {kp : Nat → Bool} : ∀ {H L : Heap} {i : Nat}, kill kp i (H ++ L) = kill kp i H ++ kill kp (i + H.length) L
  | [], L, i => by simp [kill]
  | x :: H, L, i => by
    simp only [List.cons_append, kill, List.length_cons]
    rw [kill_app, Nat.add_assoc, Nat.add_comm 1]
/-- all blocks that the function made are forgotten -/
theorem kill_own {H L : Heap} : kill (fun b => decide (b < H.length)) 0 (H ++ L) = H ++ List.replicate L.length none := by
  rw [kill_app, kill_keep (by omega), kill_all (by omega)]
  congr 1
  induction L with
  | nil => rfl
  | cons x L ih => rw [List.map_cons, List.length_cons, List.replicate_succ, ih]
end

/-- A function, its statements one by one. -/
theorem wpF_goW {P : Program} {G : Globs} {f : FuncId} {np : Nat} {vm : List Nat} {F : FnS} (hc : cF P G (drP P G) f np vm = some F) {args : List AV} {H : Heap} {K : AV → Heap → Prop} (hlen : args.length = np) (d : Nat)
    (h : (∀ a ∈ args, a.bnd H.length = true ∧ a.fact) → HBnd H.length H → WPS ⟨P, G, H.length, F.vm, F.n⟩ (DP P G F.vm F.n) F.s (Kend F.rs H d K) ⟨args ++ List.replicate (F.vm.length - args.length) .un, H⟩) : wpF P G f args H K := by
  refine wpF_pure d ?_
  refine wpF_of (D := DP P G) drP_ok hc hlen fun h1 h2 => WPS_mono (h h1 h2) ?_
  rintro e st ⟨h3, p, l, h4, h5, r, h6, h7, h8⟩
  exact ⟨h3, p, l, h4, h5, .inl ⟨r, h6, h7, h8⟩⟩
end Go.V
