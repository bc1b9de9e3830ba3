import Derived.Test.YtjilenmngokhpaaDoorV29
/- Rewriting rules for reckoning scripts: what comes behind is a name, so that nothing is reckoned ahead of its time. -/
namespace Go.V
open Go

section
variable {P : Program} {G : Globs}

def Kw (P : Program) (G : Globs) (r : List Ins) (K : List AV → Heap → Prop) : List AV → Heap → Prop := fun env h => wpI P G r env h K
def KwD (P : Program) (G : Globs) (r : List Ins) (K : List AV → Heap → Prop) : List AV → Heap → Prop := fun env h => wpD P G r env h K
def Kc (K : List AV → Heap → Prop) (env : List AV) (d : Dst) : AV → Heap → Prop := fun v h => K (putE env d v) h
/-- a call in a region that draws its order -/
def CallD (P : Program) (G : Globs) (f : FuncId) (as : List AV) (h : Heap) (K : AV → Heap → Prop) : Prop := ∃ v l, wpF P G f as h (fun a b => a = v ∧ b = h ++ l) ∧ K v (h ++ l)
def Kr (X : Cx) (Q : Exit → St → Prop) : List AV → Heap → Prop := fun env h => Q .normal ⟨env.take X.vm.length, h⟩
def Ks (X : Cx) (b : Scr) (Q : Exit → St → Prop) : Exit → St → Prop := thenQ (fun st => wpS X b Q st) Q
def Kb (id : Nat) (Q : Exit → St → Prop) : Exit → St → Prop := fun e st => match e with | .exit id' => if id' = id then Q .normal st else Q (.exit id') st | e => Q e st
/-- one of two -/
def Two (c : Bool) (A B : Prop) : Prop := (c = true → A) ∧ (c = false → B)

theorem Kw_app {r : List Ins} {K : List AV → Heap → Prop} {env : List AV} {h : Heap} : Kw P G r K env h = wpI P G r env h K := rfl
theorem KwD_app {r : List Ins} {K : List AV → Heap → Prop} {env : List AV} {h : Heap} : KwD P G r K env h = wpD P G r env h K := rfl
theorem Kc_app {K : List AV → Heap → Prop} {env : List AV} {d : Dst} {v : AV} {h : Heap} : Kc K env d v h = K (putE env d v) h := rfl
theorem Two_t {A B : Prop} : Two true A B = A := by simp [Two]
theorem Two_f {A B : Prop} : Two false A B = B := by simp [Two]
theorem Two_i {c : Bool} {A B : Prop} (h1 : c = true → A) (h2 : c = false → B) : Two c A B := ⟨h1, h2⟩

theorem two_eq {b want : Bool} {A B : Prop} : ((b = want → A) ∧ (b = !want → B)) = Two (b == want) A B := by cases b <;> cases want <;> simp [Two]

theorem vI_nil {env : List AV} {h : Heap} {K : List AV → Heap → Prop} : wpI P G [] env h K = K env h := rfl
theorem vI_go {d : Dst} {o : Iop} {as : List Opd} {r : List Ins} {env : List AV} {h : Heap} {K : List AV → Heap → Prop} :
    wpI P G (⟨d, o, as, none⟩ :: r) env h K = stepI P G ⟨d, o, as, none⟩ env h (Kw P G r K) := rfl
theorem vI_gd {d : Dst} {o : Iop} {as : List Opd} {j : Nat} {want : Bool} {r : List Ins} {env : List AV} {h : Heap} {K : List AV → Heap → Prop} :
    wpI P G (⟨d, o, as, some (j, want)⟩ :: r) env h K = (match env.getD j .un with
      | .bool b => Two (b == want) (stepI P G ⟨d, o, as, none⟩ env h (Kw P G r K)) (Kw P G r K (putE env d (.tup [])) h)
      | .tup [] => Kw P G r K (putE env d (.tup [])) h
      | _ => False) := by
  simp only [wpI]
  generalize env.getD j .un = x
  cases x with
  | bool b => exact two_eq
  | tup ps => cases ps <;> rfl
  | _ => rfl
theorem stepI_q {d : Dst} {q : Q} {as : List Opd} {g : Option (Nat × Bool)} {env : List AV} {h : Heap} {K : List AV → Heap → Prop} :
    stepI P G ⟨d, .q q, as, g⟩ env h K = (match qev h q (as.map (Opd.get env)) with
      | some (p, v) => p ∧ K (putE env d v) h
      | none => False) := rfl
theorem stepI_e {d : Dst} {e : E} {as : List Opd} {g : Option (Nat × Bool)} {env : List AV} {h : Heap} {K : List AV → Heap → Prop} :
    stepI P G ⟨d, .e e, as, g⟩ env h K = (match eev h e (as.map (Opd.get env)) with
      | some (p, v, h') => p ∧ K (putE env d v) h'
      | none => False) := rfl
theorem stepI_c {d : Dst} {f : FuncId} {as : List Opd} {g : Option (Nat × Bool)} {env : List AV} {h : Heap} {K : List AV → Heap → Prop} :
    stepI P G ⟨d, .call f, as, g⟩ env h K = wpF P G f (as.map (Opd.get env)) h (Kc K env d) := rfl
theorem stepI_v {d : Dst} {as : List Opd} {g : Option (Nat × Bool)} {env : List AV} {h : Heap} {K : List AV → Heap → Prop} :
    stepI P G ⟨d, .callv, as, g⟩ env h K = (match as.map (Opd.get env) with
      | .fn f caps :: rest => wpF P G f (rest ++ caps) h (Kc K env d)
      | _ => False) := rfl

theorem vD_nil {env : List AV} {h : Heap} {K : List AV → Heap → Prop} : wpD P G [] env h K = K env h := rfl
theorem vD_go {d : Dst} {o : Iop} {as : List Opd} {r : List Ins} {env : List AV} {h : Heap} {K : List AV → Heap → Prop} :
    wpD P G (⟨d, o, as, none⟩ :: r) env h K = stepW P G ⟨d, o, as, none⟩ env h (KwD P G r K) := rfl
theorem vD_gd {d : Dst} {o : Iop} {as : List Opd} {j : Nat} {want : Bool} {r : List Ins} {env : List AV} {h : Heap} {K : List AV → Heap → Prop} :
    wpD P G (⟨d, o, as, some (j, want)⟩ :: r) env h K = (match env.getD j .un with
      | .bool b => Two (b == want) (stepW P G ⟨d, o, as, none⟩ env h (KwD P G r K)) (KwD P G r K (putE env d (.tup [])) h)
      | .tup [] => KwD P G r K (putE env d (.tup [])) h
      | _ => False) := by
  simp only [wpD]
  generalize env.getD j .un = x
  cases x with
  | bool b => exact two_eq
  | tup ps => cases ps <;> rfl
  | _ => rfl
theorem stepW_q {d : Dst} {q : Q} {as : List Opd} {g : Option (Nat × Bool)} {env : List AV} {h : Heap} {K : List AV → Heap → Prop} :
    stepW P G ⟨d, .q q, as, g⟩ env h K = (match qev h q (as.map (Opd.get env)) with
      | some (p, v) => p ∧ K (putE env d v) h
      | none => False) := rfl
theorem stepW_e {d : Dst} {e : E} {as : List Opd} {g : Option (Nat × Bool)} {env : List AV} {h : Heap} {K : List AV → Heap → Prop} :
    stepW P G ⟨d, .e e, as, g⟩ env h K = (match eev h e (as.map (Opd.get env)) with
      | some (p, v, h') => p ∧ K (putE env d v) h'
      | none => False) := rfl
theorem stepW_c {d : Dst} {f : FuncId} {as : List Opd} {g : Option (Nat × Bool)} {env : List AV} {h : Heap} {K : List AV → Heap → Prop} :
    stepW P G ⟨d, .call f, as, g⟩ env h K = CallD P G f (as.map (Opd.get env)) h (Kc K env d) := rfl
theorem stepW_v {d : Dst} {as : List Opd} {g : Option (Nat × Bool)} {env : List AV} {h : Heap} {K : List AV → Heap → Prop} :
    stepW P G ⟨d, .callv, as, g⟩ env h K = (match as.map (Opd.get env) with
      | .fn f caps :: rest => CallD P G f (rest ++ caps) h (Kc K env d)
      | _ => False) := rfl

/-- a call that hangs on no memory -/
def CallP (P : Program) (G : Globs) (f : FuncId) (as : List AV) (h : Heap) (K : AV → Heap → Prop) : Prop := ∃ v, v.bnd 0 = true ∧ (∀ H, wpF P G f as H fun a b => a = v ∧ b = H) ∧ K v h
theorem stepI_p {d : Dst} {f : FuncId} {as : List Opd} {g : Option (Nat × Bool)} {env : List AV} {h : Heap} {K : List AV → Heap → Prop} :
    stepI P G ⟨d, .callp f, as, g⟩ env h K = wpF P G f (as.map (Opd.get env)) h (Kc K env d) := rfl
theorem stepW_p {d : Dst} {f : FuncId} {as : List Opd} {g : Option (Nat × Bool)} {env : List AV} {h : Heap} {K : List AV → Heap → Prop} :
    stepW P G ⟨d, .callp f, as, g⟩ env h K = CallP P G f (as.map (Opd.get env)) h (Kc K env d) := rfl
/-- a call that may write the memory that it is handed -/
def CallW (P : Program) (G : Globs) (f : FuncId) (as : List AV) (h : Heap) (K : AV → Heap → Prop) : Prop := ∃ v h', h.length ≤ h'.length ∧ wpF P G f as h (fun a b => a = v ∧ b = h') ∧ K v h'
theorem stepI_w {d : Dst} {f : FuncId} {as : List Opd} {g : Option (Nat × Bool)} {env : List AV} {h : Heap} {K : List AV → Heap → Prop} :
    stepI P G ⟨d, .callw f, as, g⟩ env h K = wpF P G f (as.map (Opd.get env)) h (Kc K env d) := rfl
theorem stepW_w {d : Dst} {f : FuncId} {as : List Opd} {g : Option (Nat × Bool)} {env : List AV} {h : Heap} {K : List AV → Heap → Prop} :
    stepW P G ⟨d, .callw f, as, g⟩ env h K = CallW P G f (as.map (Opd.get env)) h (Kc K env d) := rfl
theorem draww {f : FuncId} {as : List AV} {h : Heap} {K : AV → Heap → Prop} (v : AV) (h' : Heap) (hl : h.length ≤ h'.length) (h1 : wpF P G f as h fun a b => a = v ∧ b = h') (h2 : K v h') : CallW P G f as h K := ⟨v, h', hl, h1, h2⟩
theorem drawnw {f : FuncId} {as : List AV} {h : Heap} {K : AV → Heap → Prop} (v : AV) (h1 : wpF P G f as h fun a b => a = v ∧ b = h) (h2 : K v h) : CallW P G f as h K := ⟨v, h, Nat.le_refl _, h1, h2⟩
theorem stepI_n {d : Dst} {neg : Bool} {as : List Opd} {g : Option (Nat × Bool)} {env : List AV} {h : Heap} {K : List AV → Heap → Prop} :
    stepI P G ⟨d, .nilq neg, as, g⟩ env h K = nilK neg (as.map (Opd.get env)) (fun b => Kc K env d (.bool b) h) := rfl
theorem nilK_nils {neg : Bool} {K : Bool → Prop} : nilK neg [.nils] K = K (!neg) := rfl
theorem nilK_own {neg : Bool} {K : Bool → Prop} {b ver : Nat} {pa : List Nat} {off n : Nat} {e : Shape} : nilK neg [.own b ver pa off n e] K = ((n = 0 → K (!neg)) ∧ K neg) := rfl
theorem nilK_ro {neg : Bool} {K : Bool → Prop} {e : Shape} {xs : List AV} : nilK neg [.ro e xs] K = ((xs = [] → K (!neg)) ∧ K neg) := rfl
theorem bnd0_agg8 {l : List (BitVec 8)} : (AV.agg (l.map AV.u8)).bnd 0 = true := by
  simp only [AV.bnd, bnds_iff]
  intro a ha
  obtain ⟨x, _, rfl⟩ := List.mem_map.1 ha
  simp [AV.bnd]
theorem bnd0_agg64 {l : List (BitVec 64)} : (AV.agg (l.map AV.u64)).bnd 0 = true := by
  simp only [AV.bnd, bnds_iff]
  intro a ha
  obtain ⟨x, _, rfl⟩ := List.mem_map.1 ha
  simp [AV.bnd]
theorem drawp {f : FuncId} {as : List AV} {h : Heap} {K : AV → Heap → Prop} (v : AV) (h1 : ∀ H, wpF P G f as H fun a b => a = v ∧ b = H) (h2 : K v h) (hb : v.bnd 0 = true := by first | rfl | exact bnd0_agg8 | exact bnd0_agg64 | simp [AV.bnd, AV.bnds]) : CallP P G f as h K := ⟨v, hb, h1, h2⟩

theorem drawn {f : FuncId} {as : List AV} {h : Heap} {K : AV → Heap → Prop} (v : AV) (h1 : wpF P G f as h fun a b => a = v ∧ b = h) (h2 : K v h) : CallD P G f as h K :=
  ⟨v, [], by simpa using h1, by simpa using h2⟩

theorem hget_0 {H L : Heap} : Heap.get (H ++ L) H.length = Heap.get L 0 := by rw [Heap.get_append_right _ _ _ (Nat.le_refl _), Nat.sub_self]
theorem hget_k {H L : Heap} {k : Nat} : Heap.get (H ++ L) (H.length + k) = Heap.get L k := by rw [Heap.get_append_right _ _ _ (Nat.le_add_right _ _), Nat.add_sub_cancel_left]
theorem hget_z {x : Option Blk} {L : Heap} : Heap.get (x :: L) 0 = x := by simp [Heap.get]
theorem hget_s {x : Option Blk} {L : Heap} {k : Nat} : Heap.get (x :: L) (k + 1) = Heap.get L k := by simp [Heap.get]
theorem hset_0 {H L : Heap} {x : Option Blk} : List.set (H ++ L) H.length x = H ++ L.set 0 x := by rw [List.set_append_right _ _ (Nat.le_refl _), Nat.sub_self]
theorem hset_k {H L : Heap} {x : Option Blk} {k : Nat} : List.set (H ++ L) (H.length + k) x = H ++ L.set k x := by rw [List.set_append_right _ _ (Nat.le_add_right _ _), Nat.add_sub_cancel_left]
theorem htake_0 {H L : Heap} : (H ++ L).take H.length = H := List.take_left
theorem lt_own0 {H : Heap} : (H.length < H.length) = False := by simp
theorem lt_ownk {H : Heap} {k : Nat} : (H.length + k < H.length) = False := by simp
theorem hasAt_nil {s : Shape} : HasAt s [] [] = True := rfl
theorem hasAt_arr {n : Nat} {e : Shape} {i : Nat} {ix : List Nat} {v : AV} {vs : List AV} : HasAt (.arr n e) (i :: ix) (v :: vs) = ((match (if i < n then some e else none) with | some t => HasSh t v | none => False) ∧ HasAt (.arr n e) ix vs) := rfl
theorem hasAt_st {l : List Shape} {i : Nat} {ix : List Nat} {v : AV} {vs : List AV} : HasAt (.st l) (i :: ix) (v :: vs) = ((match l[i]? with | some t => HasSh t v | none => False) ∧ HasAt (.st l) ix vs) := rfl
theorem hasSh_l {a : AV} : HasSh .leaf a = (a.isCell = true) := by simp [hasSh_leaf]
theorem hasSh_aa {n : Nat} {e : Shape} {ps : List AV} : HasSh (.arr n e) (.agg ps) = (ps.length = n ∧ ∀ p ∈ ps, HasSh e p) := by simp
theorem hasSh_sa {l : List Shape} {ps : List AV} : HasSh (.st l) (.agg ps) = HasShs l ps := by simp
theorem hasShs_n : HasShs [] [] = True := by simp
theorem hasShs_c {s : Shape} {l : List Shape} {p : AV} {ps : List AV} : HasShs (s :: l) (p :: ps) = (HasSh s p ∧ HasShs l ps) := by simp

theorem putE_none {env : List AV} {v : AV} : putE env .none v = env := rfl
theorem putE_var {env : List AV} {i : Nat} {v : AV} : putE env (.var i) v = env.set i v := rfl
theorem putE_new {env : List AV} {v : AV} : putE env .new v = env ++ [v] := rfl
theorem get_t {env : List AV} {i : Nat} : Opd.get env (.t i) = env.getD i .un := rfl
theorem get_c {env : List AV} {a : AV} : Opd.get env (.c a) = a := rfl

variable {X : Cx} {Qn : Exit → St → Prop} {st : St}

theorem Kr_app {env : List AV} {h : Heap} : Kr X Qn env h = Qn .normal ⟨env.take X.vm.length, h⟩ := rfl
theorem Ks_n {b : Scr} : Ks X b Qn .normal st = wpS X b Qn st := rfl
theorem Ks_r {b : Scr} : Ks X b Qn .ret st = Qn .ret st := rfl
theorem Ks_x {b : Scr} {id : Nat} : Ks X b Qn (.exit id) st = Qn (.exit id) st := rfl
theorem Kb_n {id : Nat} : Kb id Qn .normal st = Qn .normal st := rfl
theorem Kb_r {id : Nat} : Kb id Qn .ret st = Qn .ret st := rfl
theorem Kb_x {id id' : Nat} : Kb id Qn (.exit id') st = if id' = id then Qn .normal st else Qn (.exit id') st := rfl

theorem vS_skip : wpS X .skip Qn st = Qn .normal st := rfl
theorem vS_reg {l : List Ins} {env : List AV} {h : Heap} : wpS X (.reg l) Qn ⟨env, h⟩ = wpI X.P X.G l env h (Kr X Qn) := rfl
theorem vS_draw {l : List Ins} {env : List AV} {h : Heap} : wpS X (.draw l) Qn ⟨env, h⟩ = wpDX X.P X.G l env h (Kr X Qn) := rfl
theorem vS_seq {a b : Scr} : wpS X (.seq a b) Qn st = wpS X a (Ks X b Qn) st := rfl
theorem vS_cond {o : Opd} {a b : Scr} {env : List AV} {h : Heap} : wpS X (.cond o a b) Qn ⟨env, h⟩ = (match o.get env with
    | .bool c => Two c (wpS X a Qn ⟨env, h⟩) (wpS X b Qn ⟨env, h⟩)
    | _ => False) := rfl
theorem vS_block {id : Nat} {a : Scr} : wpS X (.block id a) Qn st = wpS X a (Kb id Qn) st := rfl
theorem vS_exit {id : Nat} : wpS X (.exit id) Qn st = Qn (.exit id) st := rfl
theorem vS_ret : wpS X .ret Qn st = Qn .ret st := rfl

/-- so many rounds, one behind the other -/
def unr (X : Cx) (x : Scr) (Qn : Exit → St → Prop) : Nat → St → Prop
  | 0, _ => False
  | k + 1, st => wpS X x (thenQ (fun st' => unr X x Qn k st') Qn) st
def Ku (X : Cx) (x : Scr) (Qn : Exit → St → Prop) (k : Nat) : Exit → St → Prop := thenQ (fun st' => unr X x Qn k st') Qn

theorem unr_succ {x : Scr} {k : Nat} : unr X x Qn (k + 1) st = wpS X x (Ku X x Qn k) st := rfl
theorem Ku_n {x : Scr} {k : Nat} : Ku X x Qn k .normal st = unr X x Qn k st := rfl
theorem Ku_r {x : Scr} {k : Nat} : Ku X x Qn k .ret st = Qn .ret st := rfl
theorem Ku_x {x : Scr} {k id : Nat} : Ku X x Qn k (.exit id) st = Qn (.exit id) st := rfl

theorem wp_unroll {x : Scr} (n : Nat) (h : unr X x Qn n st) : wpS X (.loop x) Qn st := by
  refine WPS_loop (fun k st => unr X x Qn k st) h fun k st hk => ?_
  cases k with
  | zero => exact hk.elim
  | succ k =>
    refine WPS_mono (wpS_ok hk) ?_
    intro e st' h
    cases e <;> first | exact ⟨k, Nat.lt_succ_self k, h⟩ | exact h

/-- behind a round: the next one -/
def Kl (I : Nat → St → Prop) (k : Nat) (Qn : Exit → St → Prop) : Exit → St → Prop := thenQ (fun st' => ∃ k', k' < k ∧ I k' st') Qn
theorem Kl_n {I : Nat → St → Prop} {k : Nat} : Kl I k Qn .normal st = ∃ k', k' < k ∧ I k' st := rfl
theorem Kl_r {I : Nat → St → Prop} {k : Nat} : Kl I k Qn .ret st = Qn .ret st := rfl
theorem Kl_x {I : Nat → St → Prop} {k id : Nat} : Kl I k Qn (.exit id) st = Qn (.exit id) st := rfl

/-- A loop, by what each round keeps. -/
theorem wp_inv {x : Scr} (I : Nat → St → Prop) (k0 : Nat) (h0 : I k0 st) (round : ∀ k st, I k st → wpS X x (Kl I k Qn) st) : wpS X (.loop x) Qn st :=
  wp_loop I k0 h0 round

/-- the end of a function -/
def Kend (rs : List Rv) (H : Heap) (d : Nat) (K : AV → Heap → Prop) : Exit → St → Prop := fun e st =>
  (e = .normal ∨ e = .ret) ∧ ∃ p l, rsGet st rs = some (p, l) ∧ p ∧ ∃ r, dem H.length st.h d (oneOf l) = some r ∧ st.h.take H.length = H ∧ K r H
def Ken2 (H : Heap) (d : Nat) (K : AV → Heap → Prop) (h : Heap) (x : Option (Prop × List AV)) : Prop := ∃ p l, x = some (p, l) ∧ p ∧ ∃ r, dem H.length h d (oneOf l) = some r ∧ h.take H.length = H ∧ K r H
def Ken3 (H : Heap) (K : AV → Heap → Prop) (h : Heap) (x : Option AV) : Prop := ∃ r, x = some r ∧ h.take H.length = H ∧ K r H
theorem Kend_n {rs : List Rv} {H : Heap} {d : Nat} {K : AV → Heap → Prop} : Kend rs H d K .normal st = Ken2 H d K st.h (rsGet st rs) := by simp [Kend, Ken2]
theorem Kend_r {rs : List Rv} {H : Heap} {d : Nat} {K : AV → Heap → Prop} : Kend rs H d K .ret st = Ken2 H d K st.h (rsGet st rs) := by simp [Kend, Ken2]
theorem Ken2_s {H : Heap} {d : Nat} {K : AV → Heap → Prop} {h : Heap} {p : Prop} {l : List AV} : Ken2 H d K h (some (p, l)) = (p ∧ Ken3 H K h (dem H.length h d (oneOf l))) := by
  simp only [Ken2, Ken3, Option.some.injEq, Prod.mk.injEq]
  apply propext
  constructor
  · rintro ⟨p', l', ⟨rfl, rfl⟩, h1, h2⟩; exact ⟨h1, h2⟩
  · rintro ⟨h1, h2⟩; exact ⟨p, l, ⟨rfl, rfl⟩, h1, h2⟩
theorem Ken3_s {H : Heap} {K : AV → Heap → Prop} {h : Heap} {r : AV} : Ken3 H K h (some r) = (h.take H.length = H ∧ K r H) := by
  simp only [Ken3, Option.some.injEq]
  apply propext
  constructor
  · rintro ⟨_, rfl, h1⟩; exact h1
  · exact fun h1 => ⟨r, rfl, h1⟩
theorem htake_1 {H : Heap} : (H.take H.length = H) = True := by simp
theorem htake_2 {H L : Heap} : ((H ++ L).take H.length = H) = True := by simp

theorem kill_set {k : Nat} : ∀ {h : Heap} {i : Nat}, i ≤ k → kill (fun b => b != k) i h = h.set (k - i) none
  | [], i, _ => by simp [kill]
  | x :: h, i, hk => by
    simp only [kill]
    rcases Nat.lt_or_ge i k with h1 | h1
    · rw [kill_set (h := h) (i := i + 1) (by omega)]
      have e : k - i = (k - (i + 1)) + 1 := by omega
      rw [e, List.set_cons_succ]
      have : (i != k) = true := by simp; omega
      simp [this]
    · have : i = k := by omega
      subst this
      simp only [bne_self_eq_false, Nat.sub_self, List.set_cons_zero]
      have key : ∀ (h : Heap) (j : Nat), i < j → kill (fun b => b != i) j h = h := by
        intro h
        induction h with
        | nil => intro j _; rfl
        | cons y h ih =>
          intro j hj
          simp only [kill]
          rw [ih (j + 1) (by omega)]
          have : (j != i) = true := by simp; omega
          simp [this]
      rw [key h (i + 1) (by omega)]
      simp

/-- the caller gives up one block -/
theorem wpF_give1 {f : FuncId} {args : List AV} {H : Heap} {K : AV → Heap → Prop} (k d : Nat) (h : match mapO (demK (fun b => b != k) H.length H d) args with | some args' => wpF P G f args' (H.set k none) K | none => False) : wpF P G f args H K := by
  split at h
  · rename_i args' hm
    refine wpF_give _ d hm ?_
    rw [kill_set (Nat.zero_le _), Nat.sub_zero]
    exact h
  · exact h.elim

def Kp (H : Heap) (K : AV → Heap → Prop) : AV → Heap → Prop := fun r _ => r.plain2 = true ∧ K r H
theorem Kp_app {H H' : Heap} {K : AV → Heap → Prop} {r : AV} : Kp H K r H' = (r.plain2 = true ∧ K r H) := rfl
theorem wpF_lend1 {f : FuncId} {args : List AV} {H : Heap} {K : AV → Heap → Prop} (d : Nat) (h : match mapO (demK (fun _ => false) 0 H d) args with | some args' => wpF P G f args' [] (Kp H K) | none => False) : wpF P G f args H K := by
  split at h
  · rename_i args' hm
    exact wpF_lend d hm h
  · exact h.elim

theorem wpF_go {f : FuncId} {np : Nat} {vm : List Nat} {F : FnS} (hc : cF P G (drP P G) f np vm = some F) {args : List AV} {H : Heap} {K : AV → Heap → Prop} (hlen : args.length = np) (d : Nat)
    (h : (∀ a ∈ args, a.bnd H.length = true ∧ a.fact) → HBnd H.length H → wpS ⟨P, G, H.length, F.vm, F.n⟩ F.s (Kend F.rs H d K) ⟨args ++ List.replicate (F.vm.length - args.length) .un, H⟩) : wpF P G f args H K :=
  wpF_fun hc hlen d h

end
end Go.V
