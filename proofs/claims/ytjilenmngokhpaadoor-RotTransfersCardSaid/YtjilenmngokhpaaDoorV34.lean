import Derived.Test.YtjilenmngokhpaaDoorV33
/- Rules that look at a test alone until it is decided: what hangs on it is left untouched. -/
namespace Go.V
open Go

def ThI (P : Program) (G : Globs) (i : Ins) (env : List AV) (h : Heap) (K : List AV → Heap → Prop) : Unit → Prop := fun _ => stepI P G i env h K
def ThW (P : Program) (G : Globs) (i : Ins) (env : List AV) (h : Heap) (K : List AV → Heap → Prop) : Unit → Prop := fun _ => stepW P G i env h K
def ThK (K : List AV → Heap → Prop) (env : List AV) (d : Dst) (v : AV) (h : Heap) : Unit → Prop := fun _ => K (putE env d v) h
def ThS (X : Cx) (s : Scr) (Q : Exit → St → Prop) (st : St) : Unit → Prop := fun _ => wpS X s Q st
/-- one of two, neither of them looked at -/
def TwU (c : Bool) (f g : Unit → Prop) : Prop := Two c (f ()) (g ())
/-- a guarded step -/
def GdM (x : AV) (want : Bool) (f g : Unit → Prop) : Prop := match x with
  | .bool b => TwU (b == want) f g
  | .tup [] => g ()
  | _ => False
/-- a parting of ways -/
def CdM (x : AV) (f g : Unit → Prop) : Prop := match x with
  | .bool c => TwU c f g
  | _ => False

section
variable {P : Program} {G : Globs}
theorem ThI_app {i : Ins} {env : List AV} {h : Heap} {K : List AV → Heap → Prop} : ThI P G i env h K () = stepI P G i env h K := rfl
theorem ThW_app {i : Ins} {env : List AV} {h : Heap} {K : List AV → Heap → Prop} : ThW P G i env h K () = stepW P G i env h K := rfl
theorem ThK_app {K : List AV → Heap → Prop} {env : List AV} {d : Dst} {v : AV} {h : Heap} : ThK K env d v h () = K (putE env d v) h := rfl
theorem ThS_app {X : Cx} {s : Scr} {Q : Exit → St → Prop} {st : St} : ThS X s Q st () = wpS X s Q st := rfl
theorem TwU_t {f g : Unit → Prop} : TwU true f g = f () := Two_t
theorem TwU_f {f g : Unit → Prop} : TwU false f g = g () := Two_f
theorem GdM_b {b want : Bool} {f g : Unit → Prop} : GdM (.bool b) want f g = TwU (b == want) f g := rfl
theorem GdM_t {want : Bool} {f g : Unit → Prop} : GdM (.tup []) want f g = g () := rfl
theorem CdM_b {c : Bool} {f g : Unit → Prop} : CdM (.bool c) f g = TwU c f g := rfl

theorem wI_gd {d : Dst} {o : Iop} {as : List Opd} {j : Nat} {want : Bool} {r : List Ins} {env : List AV} {h : Heap} {K : List AV → Heap → Prop} :
    wpI P G (⟨d, o, as, some (j, want)⟩ :: r) env h K = GdM (env.getD j .un) want (ThI P G ⟨d, o, as, none⟩ env h (Kw P G r K)) (ThK (Kw P G r K) env d (.tup []) h) := by
  rw [vI_gd]; unfold GdM; rfl
theorem wD_gd {d : Dst} {o : Iop} {as : List Opd} {j : Nat} {want : Bool} {r : List Ins} {env : List AV} {h : Heap} {K : List AV → Heap → Prop} :
    wpD P G (⟨d, o, as, some (j, want)⟩ :: r) env h K = GdM (env.getD j .un) want (ThW P G ⟨d, o, as, none⟩ env h (KwD P G r K)) (ThK (KwD P G r K) env d (.tup []) h) := by
  rw [vD_gd]; unfold GdM; rfl
theorem wS_cond {X : Cx} {Qn : Exit → St → Prop} {o : Opd} {a b : Scr} {env : List AV} {h : Heap} : wpS X (.cond o a b) Qn ⟨env, h⟩ = CdM (o.get env) (ThS X a Qn ⟨env, h⟩) (ThS X b Qn ⟨env, h⟩) := by
  rw [vS_cond]; unfold CdM; rfl

/-! Regions that draw -/
def KwX (P : Program) (G : Globs) (ps : List (Nat × Nat)) (r : List Ins) (log : List (List Nat × List Nat)) (K : List AV → Heap → Prop) : List AV → Heap → Prop := fun env h => wpX P G ps r log env h K
theorem KwX_app {ps : List (Nat × Nat)} {r : List Ins} {log : List (List Nat × List Nat)} {K : List AV → Heap → Prop} {env : List AV} {h : Heap} : KwX P G ps r log K env h = wpX P G ps r log env h K := rfl
theorem xD_n {env : List AV} {h : Heap} {K : List AV → Heap → Prop} : wpDX P G [] env h K = K env h := rfl
theorem xD_q {d : Dst} {q : Q} {as : List Opd} {g : Option (Nat × Bool)} {r : List Ins} {env : List AV} {h : Heap} {K : List AV → Heap → Prop} : wpDX P G (⟨d, .q q, as, g⟩ :: r) env h K = wpD P G (⟨d, .q q, as, g⟩ :: r) env h K := by
  unfold wpDX; split; (rename_i e; cases e); rfl
theorem xD_e {d : Dst} {e : E} {as : List Opd} {g : Option (Nat × Bool)} {r : List Ins} {env : List AV} {h : Heap} {K : List AV → Heap → Prop} : wpDX P G (⟨d, .e e, as, g⟩ :: r) env h K = wpD P G (⟨d, .e e, as, g⟩ :: r) env h K := by
  unfold wpDX; split; (rename_i e; cases e); rfl
theorem xD_c {d : Dst} {f : FuncId} {as : List Opd} {g : Option (Nat × Bool)} {r : List Ins} {env : List AV} {h : Heap} {K : List AV → Heap → Prop} : wpDX P G (⟨d, .call f, as, g⟩ :: r) env h K = wpD P G (⟨d, .call f, as, g⟩ :: r) env h K := by
  unfold wpDX; split; (rename_i e; cases e); rfl
theorem xD_v {d : Dst} {as : List Opd} {g : Option (Nat × Bool)} {r : List Ins} {env : List AV} {h : Heap} {K : List AV → Heap → Prop} : wpDX P G (⟨d, .callv, as, g⟩ :: r) env h K = wpD P G (⟨d, .callv, as, g⟩ :: r) env h K := by
  unfold wpDX; split; (rename_i e; cases e); rfl
theorem xD_p {d : Dst} {f : FuncId} {as : List Opd} {g : Option (Nat × Bool)} {r : List Ins} {env : List AV} {h : Heap} {K : List AV → Heap → Prop} : wpDX P G (⟨d, .callp f, as, g⟩ :: r) env h K = wpD P G (⟨d, .callp f, as, g⟩ :: r) env h K := by
  unfold wpDX; split; (rename_i e; cases e); rfl
theorem xD_m {d : Dst} {f : FuncId} {as : List Opd} {g : Option (Nat × Bool)} {r : List Ins} {env : List AV} {h : Heap} {K : List AV → Heap → Prop} : wpDX P G (⟨d, .callm f, as, g⟩ :: r) env h K = wpD P G (⟨d, .callm f, as, g⟩ :: r) env h K := by
  unfold wpDX; split; (rename_i e; cases e); rfl
theorem xD_w {d : Dst} {f : FuncId} {as : List Opd} {g : Option (Nat × Bool)} {r : List Ins} {env : List AV} {h : Heap} {K : List AV → Heap → Prop} : wpDX P G (⟨d, .callw f, as, g⟩ :: r) env h K = wpD P G (⟨d, .callw f, as, g⟩ :: r) env h K := by
  unfold wpDX; split; (rename_i e; cases e); rfl
theorem xD_s {ps : List (Nat × Nat)} {r : List Ins} {env : List AV} {h : Heap} {K : List AV → Heap → Prop} : wpDX P G (⟨.none, .pairs ps, [], none⟩ :: r) env h K = wpX P G ps r [] env h K := rfl
theorem vX_nil {ps : List (Nat × Nat)} {log : List (List Nat × List Nat)} {env : List AV} {h : Heap} {K : List AV → Heap → Prop} : wpX P G ps [] log env h K = (chkL ps log ∧ K env h) := rfl
theorem vX_go {ps : List (Nat × Nat)} {log : List (List Nat × List Nat)} {d : Dst} {o : Iop} {as : List Opd} {r : List Ins} {env : List AV} {h : Heap} {K : List AV → Heap → Prop} :
    wpX P G ps (⟨d, o, as, none⟩ :: r) log env h K = stepW P G ⟨d, o, as, none⟩ env h (KwX P G ps r (log ++ [fpO o (as.map (Opd.get env))]) K) := rfl
theorem wX_gd {ps : List (Nat × Nat)} {log : List (List Nat × List Nat)} {d : Dst} {o : Iop} {as : List Opd} {j : Nat} {want : Bool} {r : List Ins} {env : List AV} {h : Heap} {K : List AV → Heap → Prop} :
    wpX P G ps (⟨d, o, as, some (j, want)⟩ :: r) log env h K = GdM (env.getD j .un) want (ThW P G ⟨d, o, as, none⟩ env h (KwX P G ps r (log ++ [fpO o (as.map (Opd.get env))]) K)) (ThK (KwX P G ps r (log ++ [([], [])]) K) env d (.tup []) h) := by
  simp only [wpX]
  unfold GdM
  generalize env.getD j .un = x
  cases x with
  | bool b => exact two_eq
  | tup ps => cases ps <;> rfl
  | _ => rfl

/-- a call that hangs on no memory, and makes one list -/
def CallM (P : Program) (G : Globs) (f : FuncId) (as : List AV) (h : Heap) (K : AV → Heap → Prop) : Prop :=
  ∃ ver n e blk, blk.root.bnd 0 = true ∧ (∀ H, wpF P G f as H fun a b => a = .own H.length ver [] 0 n e ∧ b = H ++ [some blk]) ∧ K (.own h.length ver [] 0 n e) (h ++ [some blk])
theorem stepI_m {d : Dst} {f : FuncId} {as : List Opd} {g : Option (Nat × Bool)} {env : List AV} {h : Heap} {K : List AV → Heap → Prop} :
    stepI P G ⟨d, .callm f, as, g⟩ env h K = wpF P G f (as.map (Opd.get env)) h (Kc K env d) := rfl
theorem stepW_m {d : Dst} {f : FuncId} {as : List Opd} {g : Option (Nat × Bool)} {env : List AV} {h : Heap} {K : List AV → Heap → Prop} :
    stepW P G ⟨d, .callm f, as, g⟩ env h K = CallM P G f (as.map (Opd.get env)) h (Kc K env d) := rfl
theorem drawm {f : FuncId} {as : List AV} {h : Heap} {K : AV → Heap → Prop} (ver n : Nat) (e : Shape) (blk : Blk) (h1 : ∀ H, wpF P G f as H fun a b => a = .own H.length ver [] 0 n e ∧ b = H ++ [some blk]) (h2 : K (.own h.length ver [] 0 n e) (h ++ [some blk]))
    (hb : blk.root.bnd 0 = true := by first | rfl | exact bnd0_agg8 | exact bnd0_agg64 | simp [AV.bnd, AV.bnds]) : CallM P G f as h K := ⟨ver, n, e, blk, hb, h1, h2⟩

def ninL (x : Nat) : List Nat → Prop
  | [] => True
  | y :: ys => x ≠ y ∧ ninL x ys
def disL : List Nat → List Nat → Prop
  | [], _ => True
  | x :: xs, ys => ninL x ys ∧ disL xs ys
theorem ninL_iff {x : Nat} : ∀ {ys : List Nat}, ninL x ys ↔ x ∉ ys
  | [] => by simp [ninL]
  | y :: ys => by simp [ninL, ninL_iff (ys := ys)]
theorem disL_iff : ∀ {xs ys : List Nat}, disL xs ys ↔ ∀ x ∈ xs, x ∉ ys
  | [], ys => by simp [disL]
  | x :: xs, ys => by simp [disL, ninL_iff, disL_iff (xs := xs)]
theorem ninL_n {x : Nat} : ninL x [] = True := rfl
theorem ninL_c {x y : Nat} {ys : List Nat} : ninL x (y :: ys) = (x ≠ y ∧ ninL x ys) := rfl
theorem disL_n {ys : List Nat} : disL [] ys = True := rfl
theorem disL_r {xs : List Nat} : disL xs [] = True := by simp [disL_iff]
theorem disL_c {x : Nat} {xs ys : List Nat} : disL (x :: xs) ys = (ninL x ys ∧ disL xs ys) := rfl
theorem chkL_n {log : List (List Nat × List Nat)} : chkL [] log = True := by simp [chkL]
theorem chkL_c {i j : Nat} {ps : List (Nat × Nat)} {log : List (List Nat × List Nat)} : chkL ((i, j) :: ps) log = (apartL (log.getD i ([], [])) (log.getD j ([], [])) ∧ chkL ps log) := by simp [chkL]
theorem apartL_e {a b c d : List Nat} : apartL (a, b) (c, d) = (disL b c ∧ disL b d ∧ disL a d) := by
  simp only [apartL, disL_iff, eq_iff_iff]
  constructor
  · intro ⟨h1, h2⟩; exact ⟨fun x hx => (h1 x hx).1, fun x hx => (h1 x hx).2, h2⟩
  · intro ⟨h1, h2, h3⟩; exact ⟨fun x hx => ⟨h1 x hx, h2 x hx⟩, h3⟩
theorem fp_ld {s : Shape} {p : AV} : fpO (.q (.ld s)) [p] = (topB p, []) := rfl
theorem fp_b2s {p : AV} : fpO (.q .b2s) [p] = (topB p, []) := rfl
theorem fp_st {s : Shape} {p v : AV} : fpO (.e (.store s)) [p, v] = ([], topB p) := rfl
theorem fp_app {t : TypeId} {s : Shape} {k : Nat} {d y : AV} : fpO (.e (.app t s k)) [d, y] = (topB y, topB d) := rfl
theorem fp_appS {t : TypeId} {d y : AV} : fpO (.e (.appS t)) [d, y] = ([], topB d) := rfl
theorem fp_cpy {s : Shape} {d y : AV} : fpO (.e (.cpy s)) [d, y] = (topB y, topB d) := rfl
theorem fp_cpyS {d y : AV} : fpO (.e .cpyS) [d, y] = ([], topB d) := rfl
theorem tb_own {b ver off n : Nat} {pa : List Nat} {e : Shape} : topB (.own b ver pa off n e) = [b] := rfl
theorem tb_ptr {b ver : Nat} {pa : List Nat} {s : Shape} : topB (.ptr b ver pa s) = [b] := rfl
theorem tb_ro {e : Shape} {xs : List AV} : topB (.ro e xs) = [] := rfl
theorem tb_rp {s : Shape} {a : AV} : topB (.rp s a) = [] := rfl
theorem tb_nils : topB .nils = [] := rfl
theorem tb_str {l : List (BitVec 8)} : topB (.str l) = [] := rfl
theorem ne_ah {H : Heap} {k : Nat} : (H.length + (k + 1) = H.length) = False := by simp
theorem ne_ha {H : Heap} {k : Nat} : (H.length = H.length + (k + 1)) = False := by simp

theorem bt {b : Bool} : (b == true) = b := by cases b <;> rfl
theorem bf {b : Bool} : (b == false) = !b := by cases b <;> rfl

/-- the test holds, or not -/
theorem two_t {c : Bool} {f g : Unit → Prop} (hc : c = true) (h : f ()) : TwU c f g := by subst hc; exact ⟨fun _ => h, fun h' => absurd h' (by decide)⟩
theorem two_f {c : Bool} {f g : Unit → Prop} (hc : c = false) (h : g ()) : TwU c f g := by subst hc; exact ⟨fun h' => absurd h' (by decide), fun _ => h⟩
theorem two_by {c : Bool} {f g : Unit → Prop} (h1 : c = true → f ()) (h2 : c = false → g ()) : TwU c f g := ⟨h1, h2⟩
end

/-! numbers, written as a program has them -/
theorem bv_add_zero {n : Nat} (x : BitVec n) : x + 0 = x := BitVec.add_zero x
theorem bv_zero_add {n : Nat} (x : BitVec n) : 0 + x = x := BitVec.zero_add x
theorem bv_mul_zero {n : Nat} (x : BitVec n) : x * 0 = 0 := BitVec.mul_zero
theorem bv_mul_one {n : Nat} (x : BitVec n) : x * 1 = x := BitVec.mul_one x
theorem bv_one_mul {n : Nat} (x : BitVec n) : 1 * x = x := BitVec.one_mul x
theorem bv_and_zero {n : Nat} (x : BitVec n) : x &&& 0 = 0 := BitVec.and_zero
/-! lists of plain values -/
theorem bnds_bool {α : Type} {l : List α} {f : α → Bool} {k : Nat} : AV.bnds k (l.map fun a => AV.bool (f a)) = true := bnds_plain (by intro x hx; obtain ⟨a, _, rfl⟩ := List.mem_map.1 hx; rfl)
theorem bnds_bool' {l : List Bool} {k : Nat} : AV.bnds k (l.map AV.bool) = true := bnds_plain (by intro x hx; obtain ⟨a, _, rfl⟩ := List.mem_map.1 hx; rfl)
theorem mapO_bool {α : Type} {l : List α} {f : α → Bool} {kp : Nat → Bool} {N : Nat} {h : Heap} {d : Nat} : mapO (demK kp N h (d + 1)) (l.map fun a => AV.bool (f a)) = some (l.map fun a => AV.bool (f a)) := mapO_plain (by intro x hx; obtain ⟨a, _, rfl⟩ := List.mem_map.1 hx; rfl)
theorem mapO_bool' {l : List Bool} {kp : Nat → Bool} {N : Nat} {h : Heap} {d : Nat} : mapO (demK kp N h (d + 1)) (l.map AV.bool) = some (l.map AV.bool) := mapO_plain (by intro x hx; obtain ⟨a, _, rfl⟩ := List.mem_map.1 hx; rfl)
theorem bnds_u8 {α : Type} {l : List α} {f : α → BitVec 8} {k : Nat} : AV.bnds k (l.map fun a => AV.u8 (f a)) = true := bnds_plain (by intro x hx; obtain ⟨a, _, rfl⟩ := List.mem_map.1 hx; rfl)
theorem bnds_u8' {l : List (BitVec 8)} {k : Nat} : AV.bnds k (l.map AV.u8) = true := bnds_plain (by intro x hx; obtain ⟨a, _, rfl⟩ := List.mem_map.1 hx; rfl)
theorem mapO_u8 {α : Type} {l : List α} {f : α → BitVec 8} {kp : Nat → Bool} {N : Nat} {h : Heap} {d : Nat} : mapO (demK kp N h (d + 1)) (l.map fun a => AV.u8 (f a)) = some (l.map fun a => AV.u8 (f a)) := mapO_plain (by intro x hx; obtain ⟨a, _, rfl⟩ := List.mem_map.1 hx; rfl)
theorem mapO_u8' {l : List (BitVec 8)} {kp : Nat → Bool} {N : Nat} {h : Heap} {d : Nat} : mapO (demK kp N h (d + 1)) (l.map AV.u8) = some (l.map AV.u8) := mapO_plain (by intro x hx; obtain ⟨a, _, rfl⟩ := List.mem_map.1 hx; rfl)
theorem bnds_u16 {α : Type} {l : List α} {f : α → BitVec 16} {k : Nat} : AV.bnds k (l.map fun a => AV.u16 (f a)) = true := bnds_plain (by intro x hx; obtain ⟨a, _, rfl⟩ := List.mem_map.1 hx; rfl)
theorem bnds_u16' {l : List (BitVec 16)} {k : Nat} : AV.bnds k (l.map AV.u16) = true := bnds_plain (by intro x hx; obtain ⟨a, _, rfl⟩ := List.mem_map.1 hx; rfl)
theorem mapO_u16 {α : Type} {l : List α} {f : α → BitVec 16} {kp : Nat → Bool} {N : Nat} {h : Heap} {d : Nat} : mapO (demK kp N h (d + 1)) (l.map fun a => AV.u16 (f a)) = some (l.map fun a => AV.u16 (f a)) := mapO_plain (by intro x hx; obtain ⟨a, _, rfl⟩ := List.mem_map.1 hx; rfl)
theorem mapO_u16' {l : List (BitVec 16)} {kp : Nat → Bool} {N : Nat} {h : Heap} {d : Nat} : mapO (demK kp N h (d + 1)) (l.map AV.u16) = some (l.map AV.u16) := mapO_plain (by intro x hx; obtain ⟨a, _, rfl⟩ := List.mem_map.1 hx; rfl)
theorem bnds_u32 {α : Type} {l : List α} {f : α → BitVec 32} {k : Nat} : AV.bnds k (l.map fun a => AV.u32 (f a)) = true := bnds_plain (by intro x hx; obtain ⟨a, _, rfl⟩ := List.mem_map.1 hx; rfl)
theorem bnds_u32' {l : List (BitVec 32)} {k : Nat} : AV.bnds k (l.map AV.u32) = true := bnds_plain (by intro x hx; obtain ⟨a, _, rfl⟩ := List.mem_map.1 hx; rfl)
theorem mapO_u32 {α : Type} {l : List α} {f : α → BitVec 32} {kp : Nat → Bool} {N : Nat} {h : Heap} {d : Nat} : mapO (demK kp N h (d + 1)) (l.map fun a => AV.u32 (f a)) = some (l.map fun a => AV.u32 (f a)) := mapO_plain (by intro x hx; obtain ⟨a, _, rfl⟩ := List.mem_map.1 hx; rfl)
theorem mapO_u32' {l : List (BitVec 32)} {kp : Nat → Bool} {N : Nat} {h : Heap} {d : Nat} : mapO (demK kp N h (d + 1)) (l.map AV.u32) = some (l.map AV.u32) := mapO_plain (by intro x hx; obtain ⟨a, _, rfl⟩ := List.mem_map.1 hx; rfl)
theorem bnds_u64 {α : Type} {l : List α} {f : α → BitVec 64} {k : Nat} : AV.bnds k (l.map fun a => AV.u64 (f a)) = true := bnds_plain (by intro x hx; obtain ⟨a, _, rfl⟩ := List.mem_map.1 hx; rfl)
theorem bnds_u64' {l : List (BitVec 64)} {k : Nat} : AV.bnds k (l.map AV.u64) = true := bnds_plain (by intro x hx; obtain ⟨a, _, rfl⟩ := List.mem_map.1 hx; rfl)
theorem mapO_u64 {α : Type} {l : List α} {f : α → BitVec 64} {kp : Nat → Bool} {N : Nat} {h : Heap} {d : Nat} : mapO (demK kp N h (d + 1)) (l.map fun a => AV.u64 (f a)) = some (l.map fun a => AV.u64 (f a)) := mapO_plain (by intro x hx; obtain ⟨a, _, rfl⟩ := List.mem_map.1 hx; rfl)
theorem mapO_u64' {l : List (BitVec 64)} {kp : Nat → Bool} {N : Nat} {h : Heap} {d : Nat} : mapO (demK kp N h (d + 1)) (l.map AV.u64) = some (l.map AV.u64) := mapO_plain (by intro x hx; obtain ⟨a, _, rfl⟩ := List.mem_map.1 hx; rfl)
theorem bnds_int {α : Type} {l : List α} {f : α → Int} {k : Nat} : AV.bnds k (l.map fun a => AV.int (f a)) = true := bnds_plain (by intro x hx; obtain ⟨a, _, rfl⟩ := List.mem_map.1 hx; rfl)
theorem bnds_int' {l : List Int} {k : Nat} : AV.bnds k (l.map AV.int) = true := bnds_plain (by intro x hx; obtain ⟨a, _, rfl⟩ := List.mem_map.1 hx; rfl)
theorem mapO_int {α : Type} {l : List α} {f : α → Int} {kp : Nat → Bool} {N : Nat} {h : Heap} {d : Nat} : mapO (demK kp N h (d + 1)) (l.map fun a => AV.int (f a)) = some (l.map fun a => AV.int (f a)) := mapO_plain (by intro x hx; obtain ⟨a, _, rfl⟩ := List.mem_map.1 hx; rfl)
theorem mapO_int' {l : List Int} {kp : Nat → Bool} {N : Nat} {h : Heap} {d : Nat} : mapO (demK kp N h (d + 1)) (l.map AV.int) = some (l.map AV.int) := mapO_plain (by intro x hx; obtain ⟨a, _, rfl⟩ := List.mem_map.1 hx; rfl)

theorem ld_rng {f : Nat → AV} {n i : Nat} (h : i < n) : ((List.range n).map f).getD i .un = f i := by
  rw [List.getD_eq_getElem?_getD, List.getElem?_map, List.getElem?_range h]; rfl
theorem ld_u64 {ns : List (BitVec 64)} {i : Nat} (h : i < ns.length) : (ns.map AV.u64).getD i .un = .u64 (ns.getD i 0) := by
  simp [List.getD_eq_getElem?_getD, List.getElem?_map, List.getElem?_eq_getElem h]
theorem ld_u32 {ns : List (BitVec 32)} {i : Nat} (h : i < ns.length) : (ns.map AV.u32).getD i .un = .u32 (ns.getD i 0) := by
  simp [List.getD_eq_getElem?_getD, List.getElem?_map, List.getElem?_eq_getElem h]
theorem ld_u8 {ns : List (BitVec 8)} {i : Nat} (h : i < ns.length) : (ns.map AV.u8).getD i .un = .u8 (ns.getD i 0) := by
  simp [List.getD_eq_getElem?_getD, List.getElem?_map, List.getElem?_eq_getElem h]
theorem ld_bool {ns : List Bool} {i : Nat} (h : i < ns.length) : (ns.map AV.bool).getD i .un = .bool (ns.getD i false) := by
  simp [List.getD_eq_getElem?_getD, List.getElem?_map, List.getElem?_eq_getElem h]
end Go.V
