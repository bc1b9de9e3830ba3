import Derived.Test.YtjilenmngokhpaaDoorV7
import Derived.Laws.StructEq
/- More numbers, strings, comparisons. -/
namespace Go.V
open Go

theorem wrap64_id {m : Int} (h : InR m) : IntKind.i64.wrap m = m := by
  obtain ⟨h0, h1⟩ := h
  rw [IntKind.wrap_i64]; omega

theorem wrap64_bv (r : BitVec 64) : IntKind.i64.wrap (r.toNat : Int) = r.toInt := by
  have := r.isLt
  rw [IntKind.wrap_i64, BitVec.toInt_eq_toNat_cond]
  split <;> omega

theorem inR_toInt (r : BitVec 64) : InR r.toInt := by
  have := r.isLt
  rw [BitVec.toInt_eq_toNat_cond]
  unfold InR
  split <;> omega

theorem inR_nat {k : Nat} (h : k ≤ maxLen) : InR (k : Int) := by
  simp only [maxLen] at h; unfold InR; omega

section
variable {P : Program} {w : World} {loc : Loc} {N : Nat}

theorem intBin_run {op : BinOp} {x y : Int} {p : Prop} {r : AV} (h : intBin op x y = some (p, r)) (hp : p) (t : TypeId) :
    ∃ v, (binOp op t (.int .i64 x) (.int .i64 y)).run P w = .ok v w ∧ Rep w loc N [v] r := by
  cases op <;> simp only [intBin, Option.some.injEq, Prod.mk.injEq, reduceCtorEq] at h <;> obtain ⟨rfl, rfl⟩ := h
  case add => exact ⟨_, by simp only [binOp, Op.intArith, ne_eq, not_true_eq_false, if_false, Sem.run_pure, wrap64_id hp], .int _ hp⟩
  case sub => exact ⟨_, by simp only [binOp, Op.intArith, ne_eq, not_true_eq_false, if_false, Sem.run_pure, wrap64_id hp], .int _ hp⟩
  case mul => exact ⟨_, by simp only [binOp, Op.intArith, ne_eq, not_true_eq_false, if_false, Sem.run_pure, wrap64_id hp], .int _ hp⟩
  case quo => exact ⟨_, by simp only [binOp, Op.intDiv, ne_eq, not_true_eq_false, if_false, hp.1, Sem.run_pure, wrap64_id hp.2], .int _ hp.2⟩
  case rem => exact ⟨_, by simp only [binOp, Op.intDiv, ne_eq, not_true_eq_false, if_false, hp.1, Sem.run_pure], .int _ hp.2⟩
  case and => exact ⟨_, by simp only [binOp, Op.intBits, ne_eq, not_true_eq_false, if_false, Sem.run_pure]; exact congrArg (fun m => Result.ok (Value.int .i64 m) w) (wrap64_bv _), .int _ (inR_toInt _)⟩
  case or => exact ⟨_, by simp only [binOp, Op.intBits, ne_eq, not_true_eq_false, if_false, Sem.run_pure]; exact congrArg (fun m => Result.ok (Value.int .i64 m) w) (wrap64_bv _), .int _ (inR_toInt _)⟩
  case xor => exact ⟨_, by simp only [binOp, Op.intBits, ne_eq, not_true_eq_false, if_false, Sem.run_pure]; exact congrArg (fun m => Result.ok (Value.int .i64 m) w) (wrap64_bv _), .int _ (inR_toInt _)⟩
  all_goals
    refine ⟨_, ?_, .bool _⟩
    simp only [binOp, Op.intCmp, ne_eq, not_true_eq_false, if_false, Sem.run_pure, GT.gt, GE.ge]
  case neq => simp only [bne]; rfl
  case eql => rfl

theorem cnt_inv {c : AV} {cv : Value} (hc : Rep w loc N [cv] c) {p : Prop} {m : Nat} (h : c.cnt = some (p, m)) : ∃ kk j, cv = .int kk j ∧ (p → 0 ≤ j ∧ j.toNat = m) := by
  cases c <;> simp only [AV.cnt, Option.some.injEq, Prod.mk.injEq, reduceCtorEq] at h
  case u8 y => have := hc.u8_inv; simp at this; subst this; obtain ⟨rfl, rfl⟩ := h; exact ⟨.u8, _, rfl, fun _ => ⟨by omega, by omega⟩⟩
  case u16 y => have := hc.u16_inv; simp at this; subst this; obtain ⟨rfl, rfl⟩ := h; exact ⟨.u16, _, rfl, fun _ => ⟨by omega, by omega⟩⟩
  case u32 y => have := hc.u32_inv; simp at this; subst this; obtain ⟨rfl, rfl⟩ := h; exact ⟨.u32, _, rfl, fun _ => ⟨by omega, by omega⟩⟩
  case u64 y => have := hc.u64_inv; simp at this; subst this; obtain ⟨rfl, rfl⟩ := h; exact ⟨.u64, _, rfl, fun _ => ⟨by omega, by omega⟩⟩
  case int y => have := hc.int_inv.1; simp at this; subst this; obtain ⟨rfl, rfl⟩ := h; exact ⟨.i64, _, rfl, fun h => ⟨h, rfl⟩⟩

theorem num_inv {c : AV} {cv : Value} (hc : Rep w loc N [cv] c) {m : Int} (h : c.num = some m) : ∃ kk, cv = .int kk m := by
  cases c <;> simp only [AV.num, Option.some.injEq, reduceCtorEq] at h
  case u8 y => have := hc.u8_inv; simp at this; subst this; subst h; exact ⟨.u8, rfl⟩
  case u16 y => have := hc.u16_inv; simp at this; subst this; subst h; exact ⟨.u16, rfl⟩
  case u32 y => have := hc.u32_inv; simp at this; subst this; subst h; exact ⟨.u32, rfl⟩
  case u64 y => have := hc.u64_inv; simp at this; subst this; subst h; exact ⟨.u64, rfl⟩
  case int y => have := hc.int_inv.1; simp at this; subst this; subst h; exact ⟨.i64, rfl⟩

theorem num_cell {c : AV} {m : Int} (h : c.num = some m) : c.isCell = true := by
  cases c <;> first | rfl | simp [AV.num] at h

theorem cnt_cell {c : AV} {m : Prop × Nat} (h : c.cnt = some m) : c.isCell = true := by
  cases c <;> first | rfl | simp [AV.cnt] at h

theorem intSh_run {op : BinOp} (hop : isSh op = true) {x : Int} {c r : AV} {p : Prop} (h : intSh op x c = some (p, r)) (hp : p) {cv : Value} (hc : Rep w loc N [cv] c) (t : TypeId) :
    ∃ v, (binOp op t (.int .i64 x) cv).run P w = .ok v w ∧ Rep w loc N [v] r := by
  unfold intSh at h
  cases hcc : c.cnt with
  | none => simp [hcc] at h
  | some q =>
    obtain ⟨p', m⟩ := q
    rw [hcc] at h
    obtain ⟨kk, j, rfl, hj⟩ := cnt_inv hc hcc
    cases op <;> simp only [isSh, Bool.false_eq_true] at hop <;> simp only [Option.some.injEq, Prod.mk.injEq] at h <;> obtain ⟨rfl, rfl⟩ := h
    case shl =>
      obtain ⟨h0, h1⟩ := hj hp.1
      exact ⟨_, by simp only [binOp, Op.shift, Int.not_lt.2 h0, if_false, Sem.run_pure, h1]; exact congrArg (fun m => Result.ok (Value.int .i64 m) w) (wrap64_id hp.2), .int _ hp.2⟩
    case shr =>
      obtain ⟨h0, h1⟩ := hj hp.1
      exact ⟨_, by simp only [binOp, Op.shift, Int.not_lt.2 h0, if_false, Sem.run_pure, h1]; rfl, .int _ hp.2⟩

theorem bvBin_run {k : IntKind} {n : Nat} {mk : BitVec n → AV} (hk : UK k n) (hmk : ∀ z : BitVec n, Rep w loc N [.int k z.toNat] (mk z)) {op : BinOp} {x y : BitVec n} {p : Prop} {r : AV}
    (h : bvBin op mk x y = some (p, r)) (hp : p) (t : TypeId) : ∃ v, (binOp op t (.int k x.toNat) (.int k y.toNat)).run P w = .ok v w ∧ Rep w loc N [v] r := by
  unfold bvBin at h
  cases h1 : bvOp op x y with
  | some q =>
    obtain ⟨p', z⟩ := q
    rw [h1] at h
    simp only [Option.some.injEq, Prod.mk.injEq] at h
    obtain ⟨rfl, rfl⟩ := h
    exact ⟨_, op_run hk h1 hp t, hmk z⟩
  | none =>
    rw [h1] at h
    cases h2 : bvCmp op x y with
    | none => simp [h2] at h
    | some b =>
      simp only [h2, Option.some.injEq, Prod.mk.injEq] at h
      obtain ⟨rfl, rfl⟩ := h
      exact ⟨_, cmp_run h2 t, .bool b⟩

theorem size_of_bytes {s : ByteArray} {l : List (BitVec 8)} (h : s.data.toList.map UInt8.toBitVec = l) : s.size = l.length := by
  subst h; rw [List.length_map, Array.length_toList]; rfl

theorem bytes_inj {s t : ByteArray} (h : s.data.toList.map UInt8.toBitVec = t.data.toList.map UInt8.toBitVec) : s = t := by
  have h1 : s.data.toList = t.data.toList := by
    refine List.map_inj_right (fun a b h => ?_) |>.1 h
    exact UInt8.toBitVec_inj.1 h
  cases s; cases t; simp at h1; subst h1; rfl

/-- 'x op y' on numbers and texts -/
theorem bin_run {op : BinOp} {x y r : AV} {p : Prop} (h : binAV op x y = some (p, r)) (hp : p) {xv yv : Value} (hx : RepV w loc N xv x) (hy : RepV w loc N yv y) (t : TypeId) :
    ∃ v, (binOp op t xv yv).run P w = .ok v w ∧ Rep w loc N [v] r := by
  have cell : ∀ {a : AV} {v : Value}, RepV w loc N v a → a.isCell = true → Rep w loc N [v] a := fun h => h.rep
  have cnt : ∀ {k : Nat} {mk : BitVec k → AV} {z : BitVec k}, bvSh op mk z y = some (p, r) → Rep w loc N [yv] y := by
    intro k mk z hz
    unfold bvSh at hz
    cases hcc : y.cnt with
    | none => simp [hcc] at hz
    | some q => exact cell hy (cnt_cell hcc)
  cases x <;> simp only [binAV, reduceCtorEq] at h
  case u8 a =>
    have e := (cell hx rfl).u8_inv; simp at e; subst e
    split at h
    · exact sh_run uk8 (by assumption) (fun z => .u8 z) h hp (cnt h) t
    · split at h
      · rename_i b; have e := (cell hy rfl).u8_inv; simp at e; subst e
        exact bvBin_run uk8 (fun z => .u8 z) h hp t
      · cases h
  case u16 a =>
    have e := (cell hx rfl).u16_inv; simp at e; subst e
    split at h
    · exact sh_run uk16 (by assumption) (fun z => .u16 z) h hp (cnt h) t
    · split at h
      · rename_i b; have e := (cell hy rfl).u16_inv; simp at e; subst e
        exact bvBin_run uk16 (fun z => .u16 z) h hp t
      · cases h
  case u32 a =>
    have e := (cell hx rfl).u32_inv; simp at e; subst e
    split at h
    · exact sh_run uk32 (by assumption) (fun z => .u32 z) h hp (cnt h) t
    · split at h
      · rename_i b; have e := (cell hy rfl).u32_inv; simp at e; subst e
        exact bvBin_run uk32 (fun z => .u32 z) h hp t
      · cases h
  case u64 a =>
    have e := (cell hx rfl).u64_inv; simp at e; subst e
    split at h
    · exact sh_run uk64 (by assumption) (fun z => .u64 z) h hp (cnt h) t
    · split at h
      · rename_i b; have e := (cell hy rfl).u64_inv; simp at e; subst e
        exact bvBin_run uk64 (fun z => .u64 z) h hp t
      · cases h
  case int a =>
    have e := (cell hx rfl).int_inv.1; simp at e; subst e
    split at h
    · have hc : Rep w loc N [yv] y := by
        unfold intSh at h
        cases hcc : y.cnt with
        | none => simp [hcc] at h
        | some q => exact cell hy (cnt_cell hcc)
      exact intSh_run (by assumption) h hp hc t
    · split at h
      · rename_i b; have e := (cell hy rfl).int_inv.1; simp at e; subst e
        exact intBin_run h hp t
      · cases h
  case str a =>
    obtain ⟨s, e, hs, hsl⟩ := (cell hx rfl).str_inv; simp at e; subst e
    split at h
    · rename_i b
      obtain ⟨s', e, hs', hsl'⟩ := (cell hy rfl).str_inv; simp at e; subst e
      have hsz := size_of_bytes hs
      have hsz' := size_of_bytes hs'
      have heq : (s.toList == s'.toList) = decide (a = b) := by
        rw [ByteArray.toList_eq, ByteArray.toList_eq, Bool.eq_iff_iff, beq_iff_eq, decide_eq_true_eq, ← hs, ← hs']
        exact ⟨fun h => by rw [h], fun h => by rw [bytes_inj h]⟩
      split at h <;> simp only [Option.some.injEq, Prod.mk.injEq, reduceCtorEq] at h
      · obtain ⟨rfl, rfl⟩ := h
        have hno : ¬ (((s.size + s'.size : Nat) : Int) > IntKind.i64.max) := by
          rw [hsz, hsz']
          have : IntKind.i64.max = 9223372036854775807 := by simp [IntKind.max, IntKind.signed, IntKind.bits]
          rw [this]
          simp only [maxLen] at hp
          omega
        refine ⟨_, by simp only [binOp, Op.stringOp, if_neg hno, Sem.run_pure]; rfl, .str _ _ ?_ (by simpa using hp)⟩
        rw [ByteArray.data_append, Array.toList_append, List.map_append, hs, hs']
      · obtain ⟨rfl, rfl⟩ := h
        exact ⟨_, by simp only [binOp, Op.stringOp, Sem.run_pure, heq], .bool _⟩
      · obtain ⟨rfl, rfl⟩ := h
        exact ⟨_, by simp only [binOp, Op.stringOp, Sem.run_pure, heq], .bool _⟩
    · cases h

theorem un_run {op : UnOp} {x r : AV} {p : Prop} (h : unAV op x = some (p, r)) (hp : p) {xv : Value} (hx : RepV w loc N xv x) : ∃ v, (Op.unary op xv).run P w = .ok v w ∧ Rep w loc N [v] r := by
  have neg : ∀ {k : IntKind} {n : Nat} (_ : UK k n) (x : BitVec n), k.wrap (0 - (x.toNat : Int)) = ((-x).toNat : Int) := by
    intro k n hk x
    rw [hk.wrap, emod_ofInt, Int.zero_sub, BitVec.ofInt_neg, ofInt_toNat']
  have xor : ∀ {k : IntKind} {n : Nat} (_ : UK k n) (_ : k.signed = false) (x : BitVec n), (Op.intBits .xor k k.max (x.toNat : Int)).run P w = .ok (.int k ((~~~x).toNat : Int)) w := by
    intro k n hk hs x
    obtain ⟨hb, hw⟩ := hk
    subst hb
    have hmax : BitVec.ofInt k.bits k.max = BitVec.allOnes k.bits := by
      have h2 : (2 : Int) ^ k.bits - 1 = ((2 ^ k.bits - 1 : Nat) : Int) := by
        have := Nat.two_pow_pos k.bits
        rw [Int.natCast_sub (by omega)]; simp
      simp only [IntKind.max, hs, Bool.false_eq_true, if_false]
      rw [h2, BitVec.ofInt_natCast]
      apply BitVec.eq_of_toNat_eq
      rw [BitVec.toNat_ofNat, BitVec.toNat_allOnes]
      have := Nat.two_pow_pos k.bits
      exact Nat.mod_eq_of_lt (by omega)
    simp only [Op.intBits, Sem.run_pure, hmax, ofInt_toNat', BitVec.allOnes_xor, hw, emod_ofInt]
  cases op <;> cases x <;> simp only [unAV, Option.some.injEq, Prod.mk.injEq, reduceCtorEq] at h <;> obtain ⟨rfl, rfl⟩ := h
  case neg.u8 x => have e := (hx.rep rfl).u8_inv; simp at e; subst e; exact ⟨_, by simp only [Op.unary, Op.intArith, Sem.run_pure, neg uk8], .u8 _⟩
  case neg.u16 x => have e := (hx.rep rfl).u16_inv; simp at e; subst e; exact ⟨_, by simp only [Op.unary, Op.intArith, Sem.run_pure, neg uk16], .u16 _⟩
  case neg.u32 x => have e := (hx.rep rfl).u32_inv; simp at e; subst e; exact ⟨_, by simp only [Op.unary, Op.intArith, Sem.run_pure, neg uk32], .u32 _⟩
  case neg.u64 x => have e := (hx.rep rfl).u64_inv; simp at e; subst e; exact ⟨_, by simp only [Op.unary, Op.intArith, Sem.run_pure, neg uk64], .u64 _⟩
  case neg.int x =>
    have e := (hx.rep rfl).int_inv.1; simp at e; subst e
    exact ⟨_, by simp only [Op.unary, Op.intArith, Sem.run_pure, Int.zero_sub, wrap64_id hp], .int _ hp⟩
  case not.bool b => have e := (hx.rep rfl).bool_inv; simp at e; subst e; exact ⟨_, by simp only [Op.unary, Sem.run_pure], .bool _⟩
  case xor.u8 x => have e := (hx.rep rfl).u8_inv; simp at e; subst e; exact ⟨_, by simp only [Op.unary]; exact xor uk8 rfl x, .u8 _⟩
  case xor.u16 x => have e := (hx.rep rfl).u16_inv; simp at e; subst e; exact ⟨_, by simp only [Op.unary]; exact xor uk16 rfl x, .u16 _⟩
  case xor.u32 x => have e := (hx.rep rfl).u32_inv; simp at e; subst e; exact ⟨_, by simp only [Op.unary]; exact xor uk32 rfl x, .u32 _⟩
  case xor.u64 x => have e := (hx.rep rfl).u64_inv; simp at e; subst e; exact ⟨_, by simp only [Op.unary]; exact xor uk64 rfl x, .u64 _⟩

theorem cv_run {k : IntKind} {x r : AV} (h : cvAV k x = some r) {xv : Value} (hx : RepV w loc N xv x) (src dst : TypeId) (d : TypeDesc) (hs : P.underlying src = some d) (hd : P.underlying dst = some (.int k)) :
    ∃ v, (convert src dst xv).run P w = .ok v w ∧ Rep w loc N [v] r := by
  have run : ∀ (kk : IntKind) (m : Int), (convert src dst (.int kk m)).run P w = .ok (.int k (k.wrap m)) w := by
    intro kk m
    simp [convert, run_underlying hs, run_underlying hd, Conv.intToInt]
  have un : ∀ {k : IntKind} {n n' : Nat} (_ : UK k n) (x : BitVec n'), k.wrap (x.toNat : Int) = ((x.setWidth n).toNat : Int) := by
    intro k n n' hk x
    rw [hk.wrap, emod_ofInt, BitVec.ofInt_natCast, BitVec.toNat_ofNat, BitVec.toNat_setWidth]
  have ui : ∀ {k : IntKind} {n : Nat} (_ : UK k n) (m : Int), k.wrap m = ((BitVec.ofInt n m).toNat : Int) := by
    intro k n hk m
    rw [hk.wrap, emod_ofInt]
  cases k <;> cases x <;> simp only [cvAV, Option.some.injEq, reduceCtorEq] at h <;> subst h
  case u8.u8 x => have e := (hx.rep rfl).u8_inv; simp at e; subst e; exact ⟨_, run _ _, by rw [un uk8, BitVec.setWidth_eq]; exact .u8 _⟩
  case u8.u16 x => have e := (hx.rep rfl).u16_inv; simp at e; subst e; exact ⟨_, run _ _, by rw [un uk8]; exact .u8 _⟩
  case u8.u32 x => have e := (hx.rep rfl).u32_inv; simp at e; subst e; exact ⟨_, run _ _, by rw [un uk8]; exact .u8 _⟩
  case u8.u64 x => have e := (hx.rep rfl).u64_inv; simp at e; subst e; exact ⟨_, run _ _, by rw [un uk8]; exact .u8 _⟩
  case u8.int x => have e := (hx.rep rfl).int_inv.1; simp at e; subst e; exact ⟨_, run _ _, by rw [ui uk8]; exact .u8 _⟩
  case u16.u8 x => have e := (hx.rep rfl).u8_inv; simp at e; subst e; exact ⟨_, run _ _, by rw [un uk16]; exact .u16 _⟩
  case u16.u16 x => have e := (hx.rep rfl).u16_inv; simp at e; subst e; exact ⟨_, run _ _, by rw [un uk16, BitVec.setWidth_eq]; exact .u16 _⟩
  case u16.u32 x => have e := (hx.rep rfl).u32_inv; simp at e; subst e; exact ⟨_, run _ _, by rw [un uk16]; exact .u16 _⟩
  case u16.u64 x => have e := (hx.rep rfl).u64_inv; simp at e; subst e; exact ⟨_, run _ _, by rw [un uk16]; exact .u16 _⟩
  case u16.int x => have e := (hx.rep rfl).int_inv.1; simp at e; subst e; exact ⟨_, run _ _, by rw [ui uk16]; exact .u16 _⟩
  case u32.u8 x => have e := (hx.rep rfl).u8_inv; simp at e; subst e; exact ⟨_, run _ _, by rw [un uk32]; exact .u32 _⟩
  case u32.u16 x => have e := (hx.rep rfl).u16_inv; simp at e; subst e; exact ⟨_, run _ _, by rw [un uk32]; exact .u32 _⟩
  case u32.u32 x => have e := (hx.rep rfl).u32_inv; simp at e; subst e; exact ⟨_, run _ _, by rw [un uk32, BitVec.setWidth_eq]; exact .u32 _⟩
  case u32.u64 x => have e := (hx.rep rfl).u64_inv; simp at e; subst e; exact ⟨_, run _ _, by rw [un uk32]; exact .u32 _⟩
  case u32.int x => have e := (hx.rep rfl).int_inv.1; simp at e; subst e; exact ⟨_, run _ _, by rw [ui uk32]; exact .u32 _⟩
  case u64.u8 x => have e := (hx.rep rfl).u8_inv; simp at e; subst e; exact ⟨_, run _ _, by rw [un uk64]; exact .u64 _⟩
  case u64.u16 x => have e := (hx.rep rfl).u16_inv; simp at e; subst e; exact ⟨_, run _ _, by rw [un uk64]; exact .u64 _⟩
  case u64.u32 x => have e := (hx.rep rfl).u32_inv; simp at e; subst e; exact ⟨_, run _ _, by rw [un uk64]; exact .u64 _⟩
  case u64.u64 x => have e := (hx.rep rfl).u64_inv; simp at e; subst e; exact ⟨_, run _ _, by rw [un uk64, BitVec.setWidth_eq]; exact .u64 _⟩
  case u64.int x => have e := (hx.rep rfl).int_inv.1; simp at e; subst e; exact ⟨_, run _ _, by rw [ui uk64]; exact .u64 _⟩
  case i64.u8 x =>
    have e := (hx.rep rfl).u8_inv; simp at e; subst e
    have hr : InR (x.toNat : Int) := by have := x.isLt; unfold InR; omega
    exact ⟨_, run _ _, by rw [wrap64_id hr]; exact .int _ hr⟩
  case i64.u16 x =>
    have e := (hx.rep rfl).u16_inv; simp at e; subst e
    have hr : InR (x.toNat : Int) := by have := x.isLt; unfold InR; omega
    exact ⟨_, run _ _, by rw [wrap64_id hr]; exact .int _ hr⟩
  case i64.u32 x =>
    have e := (hx.rep rfl).u32_inv; simp at e; subst e
    have hr : InR (x.toNat : Int) := by have := x.isLt; unfold InR; omega
    exact ⟨_, run _ _, by rw [wrap64_id hr]; exact .int _ hr⟩
  case i64.u64 x => have e := (hx.rep rfl).u64_inv; simp at e; subst e; exact ⟨_, run _ _, by rw [wrap64_bv]; exact .int _ (inR_toInt _)⟩
  case i64.int x => have e := (hx.rep rfl).int_inv; simp at e; obtain ⟨rfl, hr⟩ := e; exact ⟨_, run _ _, by rw [wrap64_id hr]; exact .int _ hr⟩

end
end Go.V
