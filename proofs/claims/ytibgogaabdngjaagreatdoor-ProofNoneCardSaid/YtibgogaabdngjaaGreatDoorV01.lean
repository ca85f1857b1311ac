/- Part of a proof. The abstract machine: operations that write nothing, part two: operators. The abstract machine: operations that write nothing, part three. The abstract machine: operations that write nothing, part four: places, slices. The abstract machine: operations that write nothing, part five: fields, elements, aggregates, maps that are read. The abstract machine: maps. The abstract machine: aggregates that are built; and all operations that write nothing. The abstract machine: all operations that write nothing. The abstract machine: operations that write: store, append, copy, clear, maps, iterators. -/
import Derived.Test.YtibgogaabdngjaaGreatDoorV00
import Derived.Lib.Builder
import Derived.Laws.StructEq
import Derived.Laws.Pointers
import Derived.Laws.Concat
import Derived.Laws.BytesArg
import Derived.Lib.ConvBytes
import Derived.IntWalk
import Derived.Deep.AppendSrc
set_option linter.unusedSimpArgs false
set_option linter.unusedVariables false
namespace Go.Vk
section
variable {P : Program} {c : Cx}

theorem bytesOf_inj {a b : ByteArray} : bytesOf a = bytesOf b ↔ a.toList = b.toList := by
  rw [ByteArray.toList_eq, ByteArray.toList_eq]
  unfold bytesOf
  constructor
  · intro h
    refine List.ext_getElem? fun i => ?_
    have := congrArg (fun l => l[i]?) h
    simp only [List.getElem?_map] at this
    cases hx : a.data.toList[i]? <;> cases hy : b.data.toList[i]? <;> simp_all
    exact UInt8.toNat_inj.1 this
  · intro h; rw [h]
theorem bytesOf_beq (a b : ByteArray) : (bytesOf a == bytesOf b) = (a.toList == b.toList) := by
  rw [Bool.eq_iff_iff]; simp [bytesOf_inj]
theorem bytesLess_nats : ∀ a b : List UInt8, Op.bytesLess a b = natsLess (a.map (·.toNat)) (b.map (·.toNat))
  | _, [] => by cases ‹List UInt8› <;> simp [Op.bytesLess, natsLess]
  | [], _ :: _ => by simp [Op.bytesLess, natsLess]
  | a :: x, b :: y => by
    simp only [Op.bytesLess, natsLess, List.map_cons, bytesLess_nats x y]
    congr 1
    congr 1
    rw [Bool.eq_iff_iff]
    simp [UInt8.toNat_inj]
theorem bytesLess_eq (a b : ByteArray) : Op.bytesLess a.toList b.toList = natsLess (bytesOf a) (bytesOf b) := by
  rw [bytesLess_nats, ByteArray.toList_eq, ByteArray.toList_eq]; rfl
theorem bytesOf_append (a b : ByteArray) : bytesOf (a ++ b) = bytesOf a ++ bytesOf b := by
  simp [bytesOf]

/-! ### int, string -/
theorem aInt_ok {op : BinOp} {k : IntKind} {a b : Int} {t : TypeId} {w : World} {v : AV} (hop : op ≠ .shl ∧ op ≠ .shr) (h : aInt op k a b = some v) :
    ∃ x, (binOp op t (.int k a) (.int k b)).run P w = .ok x w ∧ VR c v x := by
  cases op <;> simp only [aInt] at h
  case shl => simp at hop
  case shr => simp at hop
  case quo => split at h <;> simp at h; subst h; rename_i hb; refine ⟨_, by simp [binOp, Op.intDiv, hb]; rfl, by simp [VR]⟩
  case rem => split at h <;> simp at h; subst h; rename_i hb; refine ⟨_, by simp [binOp, Op.intDiv, hb]; rfl, by simp [VR]⟩
  all_goals (simp at h; subst h; exact ⟨_, by simp [binOp, Op.intArith, Op.intBits, Op.intCmp]; rfl, by simp [VR]⟩)
theorem aShift_ok {op : BinOp} {k l : IntKind} {a b : Int} {t : TypeId} {w : World} {v : AV} (hop : op = .shl ∨ op = .shr) (h : aShift op k a b = some v) :
    ∃ x, (binOp op t (.int k a) (.int l b)).run P w = .ok x w ∧ VR c v x := by
  unfold aShift at h
  split at h
  · cases h
  · rename_i hb
    rcases hop with rfl | rfl <;> (simp at h; subst h; exact ⟨_, by simp [binOp, Op.shift, hb]; rfl, by simp [VR]⟩)
theorem aStr_ok {op : BinOp} {a b : ByteArray} {t : TypeId} {w : World} {v : AV} (h : aStr op (bytesOf a) (bytesOf b) = some v) :
    ∃ x, (binOp op t (.string a) (.string b)).run P w = .ok x w ∧ VR c v x := by
  cases op <;> simp only [aStr] at h
  case add =>
    split at h
    · rename_i hl
      injection h with h; subst h
      rw [bytesOf_length, bytesOf_length] at hl
      unfold strMost at hl
      refine ⟨.string (a ++ b), ?_, by simp [VR, bytesOf_append]⟩
      have := run_string_add_sum (P := P) w a b (by omega)
      simpa [binOp] using this
    · cases h
  case eql => simp only [Option.some.injEq] at h; subst h; exact ⟨_, by simp [binOp, Op.stringOp]; rfl, by simp [VR, bytesOf_beq]⟩
  case neq => simp only [Option.some.injEq] at h; subst h; exact ⟨_, by simp [binOp, Op.stringOp]; rfl, by simp [VR, bytesOf_beq]⟩
  case lss => simp only [Option.some.injEq] at h; subst h; exact ⟨_, by simp [binOp, Op.stringOp]; rfl, by simp [VR, bytesLess_eq]⟩
  case leq => simp only [Option.some.injEq] at h; subst h; exact ⟨_, by simp [binOp, Op.stringOp]; rfl, by simp [VR, bytesLess_eq, bytesOf_beq]⟩
  case gtr => simp only [Option.some.injEq] at h; subst h; exact ⟨_, by simp [binOp, Op.stringOp]; rfl, by simp [VR, bytesLess_eq, bytesOf_beq]⟩
  case geq => simp only [Option.some.injEq] at h; subst h; exact ⟨_, by simp [binOp, Op.stringOp]; rfl, by simp [VR, bytesLess_eq]⟩
  all_goals cases h

/-! ### other kinds -/
theorem pointer_of {o : Opq} {v : Value} (h : VR c (.opq o) v) : ∃ a, v = .pointer (some a) := by
  simp only [VR] at h
  cases o with
  | nat n => obtain ⟨k, cs, e, fr, sl, o, rfl, _⟩ := h; exact ⟨_, rfl⟩
  | frac s n d => obtain ⟨_, k, cs, e, fr, vn, vd, o, rfl, _⟩ := h; exact ⟨_, rfl⟩

theorem eqOne_ok {t : TypeId} {x y : AV} {v u : Value} {b : Bool} {w : World} (d : Nat) (hx : VR c x v) (hy : VR c y u) (h : eqOne P t x y = some b) :
    (Op.equalIn (d + 1) t v u).run P w = .ok b w := by
  unfold eqOne at h
  split at h
  · rename_i a b' hu
    simp only [VR] at hx hy; subst hx hy
    injection h with h; subst h
    simp [Op.equalIn, r_under hu]
  · rename_i k0 k a l b' hu
    simp only [VR] at hx hy; subst hx hy
    split at h
    · rename_i hk
      injection h with h; subst h
      simp [Op.equalIn, r_under hu, hk]
    · cases h
  · rename_i a b' hu
    simp only [VR] at hx hy
    obtain ⟨s, rfl, rfl⟩ := hx
    obtain ⟨s', rfl, rfl⟩ := hy
    injection h with h; subst h
    simp [Op.equalIn, r_under hu, beq_toListBytes, bytesOf_beq]
  · cases h

theorem eqOne_plain {t : TypeId} {x y : AV} {b : Bool} (h : eqOne P t x y = some b) : aggT P t = false := by
  unfold eqOne at h
  unfold aggT
  split at h <;> simp_all

theorem r_part_one {t : TypeId} {vs : Array Value} {off : Nat} {v : Value} {w : World} {d : TypeDesc} (hd : P.underlying t = some d) (ha : aggT P t = false) (hv : vs[off]? = some v) :
    (part t vs off).run P w = .ok v w := by
  simp [part, r_agg hd, ha, hv]

theorem eqFlat_ok (d : Nat) {w : World} : ∀ (fs : List Field) (i : Nat) (xs ys : List AV) (b : Bool) (vs us : Array Value), VRL c xs (vs.toList.drop i) → VRL c ys (us.toList.drop i) →
    eqFlat P fs i xs ys = some b → (Op.eqFields (d + 1) vs us fs).run P w = .ok b w
  | [], i, [], [], b, vs, us, _, _, h => by simp only [eqFlat, Option.some.injEq] at h; subst h; simp [Op.eqFields]
  | [], i, [], _ :: _, b, vs, us, _, _, h => by simp [eqFlat] at h
  | [], i, _ :: _, _, b, vs, us, _, _, h => by simp [eqFlat] at h
  | f :: fs, i, [], _, b, vs, us, _, _, h => by simp [eqFlat] at h
  | f :: fs, i, _ :: _, [], b, vs, us, _, _, h => by simp [eqFlat] at h
  | f :: fs, i, x :: xs, y :: ys, b, vs, us, hx, hy, h => by
    simp only [eqFlat] at h
    split at h
    · rename_i hc
      simp only [Bool.and_eq_true] at hc
      have ho : f.offset = i := Nat.eq_of_beq_eq_true hc.1
      have hn : f.name ≠ "_" := by simpa using hc.2
      split at h
      · rename_i p q hp hq
        injection h with h
        simp only [VRL] at hx hy
        obtain ⟨v, vr, ev, hv, hvr⟩ := hx
        obtain ⟨u, ur, eu, hu, hur⟩ := hy
        have hvi : vs[i]? = some v := by
          have := congrArg (fun l => l[0]?) ev
          simp only [List.getElem?_drop, Nat.add_zero, List.getElem?_cons_zero] at this
          simpa using this
        have hui : us[i]? = some u := by
          have := congrArg (fun l => l[0]?) eu
          simp only [List.getElem?_drop, Nat.add_zero, List.getElem?_cons_zero] at this
          simpa using this
        have hd1 : vs.toList.drop (i + 1) = vr := by rw [← List.drop_drop, ev]; rfl
        have hd2 : us.toList.drop (i + 1) = ur := by rw [← List.drop_drop, eu]; rfl
        have ih := eqFlat_ok d (w := w) fs (i + 1) xs ys q vs us (by rw [hd1]; exact hvr) (by rw [hd2]; exact hur) hq
        have hag := eqOne_plain hp
        have hun : ∃ dd, P.underlying f.type = some dd := by
          unfold eqOne at hp
          split at hp <;> first | (rename_i hu0; exact ⟨_, hu0⟩) | cases hp
        obtain ⟨dd, hdd⟩ := hun
        simp only [Op.eqFields, if_pos hn, Sem.run_bind, ho, r_part_one hdd hag hvi, r_part_one hdd hag hui, Result.andThen_ok, eqOne_ok d hv hu hp]
        subst h
        cases p
        · simp
        · simp [ih]
      · cases h
    · cases h

theorem eqStruct_ok {t : TypeId} {xs ys : List AV} {vs us : Array Value} {b : Bool} {w : World} (d : Nat) (hx : VRL c xs vs.toList) (hy : VRL c ys us.toList) (h : eqStruct P t xs ys = some b) :
    (Op.equalIn (d + 2) t (.agg vs) (.agg us)).run P w = .ok b w ∧ P.eqGuardType P.depth t = false := by
  unfold eqStruct at h
  split at h
  · rename_i fs hfs
    split at h
    · rename_i hc
      simp only [Bool.and_eq_true, Bool.not_eq_true'] at hc
      have hf : P.fieldsOf t = fs := by simp [Program.fieldsOf, hfs]
      refine ⟨?_, hc.2⟩
      rw [run_equalIn_struct w (d + 1) t vs us (by rw [hf]; exact hfs) hc.1, hf]
      exact eqFlat_ok d fs.toList 0 xs ys b vs us (by simpa using hx) (by simpa using hy) h
    · cases h
  · cases h

theorem keyEq_ok {t : TypeId} {x y : AV} {v u : Value} {b : Bool} {w : World} (d : Nat) (hx : VR c x v) (hy : VR c y u) (h : keyEq P t x y = some b) :
    (Op.equalIn (d + 2) t v u).run P w = .ok b w := by
  unfold keyEq at h
  split at h
  · simp only [VR] at hx hy
    obtain ⟨vs, rfl, hvs⟩ := hx
    obtain ⟨us, rfl, hus⟩ := hy
    exact (eqStruct_ok d hvs hus h).1
  · exact eqOne_ok (d + 1) hx hy h

theorem isConst_eq {x : Operand} : isConst x = true → ∃ v, x = .const v := by
  cases x <;> simp [isConst]

/-! '==' kind by kind -/
theorem e_bool {t : TypeId} {w : World} (d : Nat) (a b : Bool) (h : P.underlying t = some .bool) : (Op.equalIn (d + 1) t (.bool a) (.bool b)).run P w = .ok (a == b) w := by simp [Op.equalIn, r_under h]
theorem e_pn {t e : TypeId} {w : World} (d : Nat) (b : Option Addr) (h : P.underlying t = some (.pointer e)) : (Op.equalIn (d + 1) t (.pointer none) (.pointer b)).run P w = .ok b.isNone w := by simp [Op.equalIn, r_under h]
theorem e_np {t e : TypeId} {w : World} (d : Nat) (a : Addr) (h : P.underlying t = some (.pointer e)) : (Op.equalIn (d + 1) t (.pointer (some a)) (.pointer none)).run P w = .ok false w := by simp [Op.equalIn, r_under h]
theorem e_sn {t e : TypeId} {w : World} (d : Nat) (b : Option Addr) (m n k l : Nat) (h : P.underlying t = some (.slice e)) : (Op.equalIn (d + 1) t (.slice none m n) (.slice b k l)).run P w = .ok b.isNone w := by simp [Op.equalIn, r_under h]
theorem e_ns {t e : TypeId} {w : World} (d : Nat) (a : Addr) (m n k l : Nat) (h : P.underlying t = some (.slice e)) : (Op.equalIn (d + 1) t (.slice (some a) m n) (.slice none k l)).run P w = .ok false w := by simp [Op.equalIn, r_under h]
theorem e_fnn {t : TypeId} {w : World} (d : Nat) {p q : Array TypeId} {v : Bool} (h : P.underlying t = some (.func p q v)) : (Op.equalIn (d + 1) t .nilFunc .nilFunc).run P w = .ok true w := by simp [Op.equalIn, r_under h]
theorem e_fn {t : TypeId} {w : World} (d : Nat) {p q : Array TypeId} {v : Bool} (f : Fn) (x y : Array Value) (h : P.underlying t = some (.func p q v)) : (Op.equalIn (d + 1) t .nilFunc (.func f x y)).run P w = .ok false w := by simp [Op.equalIn, r_under h]
theorem e_nf {t : TypeId} {w : World} (d : Nat) {p q : Array TypeId} {v : Bool} (f : Fn) (x y : Array Value) (h : P.underlying t = some (.func p q v)) : (Op.equalIn (d + 1) t (.func f x y) .nilFunc).run P w = .ok false w := by simp [Op.equalIn, r_under h]
theorem e_inn {t : TypeId} {w : World} (d : Nat) {p : Array (String × TypeId)} (h : P.underlying t = some (.interface p)) : (Op.equalIn (d + 1) t .nilIface .nilIface).run P w = .ok true w := by simp [Op.equalIn, r_under h]
theorem e_in {t u : TypeId} {w : World} (d : Nat) {p : Array (String × TypeId)} (x : Value) (h : P.underlying t = some (.interface p)) : (Op.equalIn (d + 1) t .nilIface (.iface u x)).run P w = .ok false w := by simp [Op.equalIn, r_under h]
theorem e_ni {t u : TypeId} {w : World} (d : Nat) {p : Array (String × TypeId)} (x : Value) (h : P.underlying t = some (.interface p)) : (Op.equalIn (d + 1) t (.iface u x) .nilIface).run P w = .ok false w := by simp [Op.equalIn, r_under h]

/-- '==' of other kinds. -/
theorem aEq_ok' {t : TypeId} {x y : AV} {v u : Value} {b cst : Bool} {w : World} {op : BinOp} {xo yo : Operand} (hop : op = .eql ∨ op = .neq) (hc : cst = (isConst xo || isConst yo))
    (hx : VR c x v) (hy : VR c y u) (h : aEq P t cst x y = some b) (d : Nat) : (eqGuard op t xo yo v u).run P w = .ok () w ∧ (Op.equalIn (d + 2) t v u).run P w = .ok b w := by
  unfold aEq at h
  split at h
  -- bool
  · simp only [VR] at hx hy; subst hx hy
    split at h
    · rename_i hu; injection h with h; subst h
      exact ⟨by simp [eqGuard_at_bool], e_bool _ _ _ hu⟩
    · cases h
  -- nil pointers
  · simp only [VR] at hx hy; subst hx hy
    split at h
    · rename_i hu; injection h with h; subst h
      exact ⟨by simp [eqGuard_at_pointer], e_pn _ _ hu⟩
    · cases h
  · simp only [VR] at hx hy; subst hx; obtain ⟨_, rfl⟩ := hy
    split at h
    · rename_i hu; injection h with h; subst h
      exact ⟨by simp [eqGuard_at_pointer], e_pn _ _ hu⟩
    · cases h
  · simp only [VR] at hx hy; subst hy; obtain ⟨_, rfl⟩ := hx
    split at h
    · rename_i hu; injection h with h; subst h
      exact ⟨by simp [eqGuard_at_pointer], e_np _ _ hu⟩
    · cases h
  · obtain ⟨a, rfl⟩ := pointer_of hy
    simp only [VR] at hx; subst hx
    split at h
    · rename_i hu; injection h with h; subst h
      exact ⟨by simp [eqGuard_at_pointer], e_pn _ _ hu⟩
    · cases h
  · obtain ⟨a, rfl⟩ := pointer_of hx
    simp only [VR] at hy; subst hy
    split at h
    · rename_i hu; injection h with h; subst h
      exact ⟨by simp [eqGuard_at_pointer], e_np _ _ hu⟩
    · cases h
  · simp only [VR] at hx hy; obtain ⟨_, rfl⟩ := hx; obtain ⟨_, rfl⟩ := hy
    split at h
    · rename_i hu
      split at h
      · rename_i hc'
        injection h with h; subst h
        simp only [Bool.and_eq_true] at hc'
        obtain ⟨⟨ht, h1⟩, h2⟩ := hc'
        have h1 := Nat.eq_of_beq_eq_true h1
        have h2 := Nat.eq_of_beq_eq_true h2
        subst h1 h2
        obtain ⟨j, hj⟩ := info_of_hasT ht
        exact ⟨by simp [eqGuard_at_pointer], by simp [Op.equalIn, run_underlying hu, sizeOf, typeInfo, hj, run_sameAddr_same]⟩
      · cases h
    · cases h
  -- slices
  · simp only [VR] at hx hy; subst hx hy
    split at h
    · rename_i hu; injection h with h; subst h
      exact ⟨by simp [eqGuard_at_slice], e_sn _ _ _ _ _ _ hu⟩
    · cases h
  · simp only [VR] at hx hy; subst hx; obtain ⟨_, m, rfl, _⟩ := hy
    split at h
    · rename_i hu; injection h with h; subst h
      exact ⟨by simp [eqGuard_at_slice], e_sn _ _ _ _ _ _ hu⟩
    · cases h
  · simp only [VR] at hx hy; subst hy; obtain ⟨_, m, rfl, _⟩ := hx
    split at h
    · rename_i hu; injection h with h; subst h
      exact ⟨by simp [eqGuard_at_slice], e_ns _ _ _ _ _ _ hu⟩
    · cases h
  · simp only [VR] at hx hy; subst hx; obtain ⟨_, m, rfl⟩ := hy
    split at h
    · rename_i hu; injection h with h; subst h
      exact ⟨by simp [eqGuard_at_slice], e_sn _ _ _ _ _ _ hu⟩
    · cases h
  · simp only [VR] at hx hy; subst hy; obtain ⟨_, m, rfl⟩ := hx
    split at h
    · rename_i hu; injection h with h; subst h
      exact ⟨by simp [eqGuard_at_slice], e_ns _ _ _ _ _ _ hu⟩
    · cases h
  -- functions
  · simp only [VR] at hx hy; subst hx hy
    split at h
    · rename_i hu; injection h with h; subst h
      exact ⟨by simp [eqGuard_at_nilFunc], e_fnn _ hu⟩
    · cases h
  · simp only [VR] at hx hy; subst hx; obtain ⟨_, rfl, _⟩ := hy
    split at h
    · rename_i hu; injection h with h; subst h
      exact ⟨by simp [eqGuard_at_nilFunc], e_fn _ _ _ _ hu⟩
    · cases h
  · simp only [VR] at hx hy; subst hy; obtain ⟨_, rfl, _⟩ := hx
    split at h
    · rename_i hu; injection h with h; subst h
      exact ⟨by simp [eqGuard_at_func], e_nf _ _ _ _ hu⟩
    · cases h
  -- interfaces
  · simp only [VR] at hx hy; subst hx hy
    split at h
    · rename_i hu
      split at h
      · rename_i hcc
        injection h with h; subst h
        rw [hc] at hcc
        refine ⟨?_, e_inn _ hu⟩
        rcases Bool.or_eq_true_iff.1 hcc with h1 | h1
        · obtain ⟨z, rfl⟩ := isConst_eq h1; simp [eqGuard_nil_constL]
        · obtain ⟨z, rfl⟩ := isConst_eq h1; simp [eqGuard_nil_constR]
      · cases h
    · cases h
  · simp only [VR] at hx hy; subst hx; obtain ⟨_, rfl, _⟩ := hy
    split at h
    · rename_i hu; injection h with h; subst h
      exact ⟨by simp [eqGuard_nil_iface], e_in _ _ hu⟩
    · cases h
  · simp only [VR] at hx hy; subst hy; obtain ⟨_, rfl, _⟩ := hx
    split at h
    · rename_i hu; injection h with h; subst h
      exact ⟨by simp [eqGuard_at_iface], e_ni _ _ hu⟩
    · cases h
  -- structs
  · simp only [VR] at hx hy
    obtain ⟨vs, rfl, hvs⟩ := hx
    obtain ⟨us, rfl, hus⟩ := hy
    have := eqStruct_ok (P := P) (w := w) d hvs hus h
    exact ⟨run_eqGuard_agg w op t xo yo vs us this.2, this.1⟩
  · cases h

theorem equal_deep {t : TypeId} {v u : Value} {b : Bool} {w : World} (h : (Op.equalIn (9998 + 2) t v u).run P w = .ok b w) : (Op.equal t v u).run P w = .ok b w := h
theorem aEq_ok {t : TypeId} {x y : AV} {v u : Value} {b cst : Bool} {w : World} {op : BinOp} {xo yo : Operand} (hop : op = .eql ∨ op = .neq) (hc : cst = (isConst xo || isConst yo))
    (hx : VR c x v) (hy : VR c y u) (h : aEq P t cst x y = some b) : (eqGuard op t xo yo v u).run P w = .ok () w ∧ (Op.equal t v u).run P w = .ok b w :=
  have h0 := aEq_ok' (w := w) hop hc hx hy h 9998
  ⟨h0.1, equal_deep h0.2⟩
/-- What the tables of kinds leave to '==' by type. -/
def byType : Value → Value → Bool
  | .int _ _, .int _ _ | .float _ _, .float _ _ | .complex _ _ _, .complex _ _ _ | .string _, .string _ => false
  | _, _ => true
theorem binOp_eql_type (t : TypeId) (v u : Value) (h : byType v u = true) : binOp .eql t v u = (do pure (.bool (← Op.equal t v u)) : Sem Value) := by
  cases v <;> cases u <;> simp only [byType, Bool.false_eq_true] at h <;> rfl
theorem binOp_neq_type (t : TypeId) (v u : Value) (h : byType v u = true) : binOp .neq t v u = (do pure (.bool (!(← Op.equal t v u))) : Sem Value) := by
  cases v <;> cases u <;> simp only [byType, Bool.false_eq_true] at h <;> rfl
theorem aEq_byType {t : TypeId} {x y : AV} {v u : Value} {b cst : Bool} (hx : VR c x v) (hy : VR c y u) (h : aEq P t cst x y = some b) : byType v u = true := by
  unfold aEq at h
  split at h <;> first
    | cases h
    | (simp only [VR] at hx hy; subst hx; subst hy; rfl)
    | (simp only [VR] at hx hy; subst hx; obtain ⟨_, rfl⟩ := hy; rfl)
    | (simp only [VR] at hx hy; subst hx; obtain ⟨_, _, rfl⟩ := hy; rfl)
    | (simp only [VR] at hx hy; subst hx; obtain ⟨_, rfl, _⟩ := hy; rfl)
    | (simp only [VR] at hx hy; subst hx; obtain ⟨_, _, rfl, _⟩ := hy; rfl)
    | (simp only [VR] at hx hy; subst hy; obtain ⟨_, rfl⟩ := hx; rfl)
    | (simp only [VR] at hx hy; subst hy; obtain ⟨_, _, rfl⟩ := hx; rfl)
    | (simp only [VR] at hx hy; subst hy; obtain ⟨_, rfl, _⟩ := hx; rfl)
    | (simp only [VR] at hx hy; subst hy; obtain ⟨_, _, rfl, _⟩ := hx; rfl)
    | (obtain ⟨a, rfl⟩ := pointer_of hy; simp only [VR] at hx; subst hx; rfl)
    | (obtain ⟨a, rfl⟩ := pointer_of hx; simp only [VR] at hy; subst hy; rfl)
    | (simp only [VR] at hx hy; obtain ⟨_, rfl, _⟩ := hx; obtain ⟨_, rfl, _⟩ := hy; rfl)
    | (simp only [VR] at hx hy; obtain ⟨_, rfl⟩ := hx; obtain ⟨_, rfl⟩ := hy; rfl)

theorem aBin_ok {op : BinOp} {t : TypeId} {cst : Bool} {x y r : AV} {v u : Value} {w : World} {xo yo : Operand} (hc : cst = (isConst xo || isConst yo)) (hx : VR c x v) (hy : VR c y u) (h : aBin P op t cst x y = some r) :
    ∃ z, (do eqGuard op t xo yo v u; binOp op t v u : Sem Value).run P w = .ok z w ∧ VR c r z := by
  unfold aBin at h
  split at h
  · rename_i k a l b
    simp only [VR] at hx hy; subst hx hy
    simp only [eqGuard_at_int, Sem.run_bind, Sem.run_pure, Result.andThen_ok]
    split at h
    · exact aShift_ok (.inl rfl) h
    · exact aShift_ok (.inr rfl) h
    · rename_i h1 h2
      split at h
      · rename_i hk; subst hk; exact aInt_ok ⟨fun e => h1 e, fun e => h2 e⟩ h
      · cases h
  · rename_i a b
    simp only [VR] at hx hy
    obtain ⟨s, rfl, rfl⟩ := hx
    obtain ⟨s', rfl, rfl⟩ := hy
    simp only [eqGuard_at_string, Sem.run_bind, Sem.run_pure, Result.andThen_ok]
    exact aStr_ok h
  · rename_i hni hns
    split at h
    · simp only [Option.map_eq_some_iff] at h
      obtain ⟨b, hb, rfl⟩ := h
      obtain ⟨h1, h2⟩ := aEq_ok (w := w) (op := .eql) (.inl rfl) hc hx hy hb
      refine ⟨.bool b, ?_, by simp [VR]⟩
      have hbin := binOp_eql_type t v u (aEq_byType hx hy hb)
      simp only [Sem.run_bind, h1, Result.andThen_ok, hbin, h2, Sem.run_pure]
    · simp only [Option.map_eq_some_iff] at h
      obtain ⟨b, hb, rfl⟩ := h
      obtain ⟨h1, h2⟩ := aEq_ok (w := w) (op := .neq) (.inr rfl) hc hx hy hb
      refine ⟨.bool (!b), ?_, by simp [VR]⟩
      have hbin := binOp_neq_type t v u (aEq_byType hx hy hb)
      simp only [Sem.run_bind, h1, Result.andThen_ok, hbin, h2, Sem.run_pure]
    · cases h
end
end Go.Vk
set_option linter.unusedSimpArgs false
set_option linter.unusedVariables false
namespace Go.Vk
section
variable {P : Program} {c : Cx} {h : Hp}

theorem aUn_ok {op : UnOp} {x r : AV} {v : Value} {w : World} (hx : VR c x v) (hh : aUn op x = some r) : ∃ z, (Op.unary op v).run P w = .ok z w ∧ VR c r z := by
  unfold aUn at hh
  split at hh
  · simp only [VR] at hx; subst hx
    split at hh
    · injection hh with hh; subst hh; exact ⟨_, by simp [Op.unary, Op.intArith]; rfl, by simp [VR]⟩
    · injection hh with hh; subst hh; exact ⟨_, by simp [Op.unary, Op.intBits]; rfl, by simp [VR]⟩
    · cases hh
  · simp only [VR] at hx; subst hx
    split at hh
    · injection hh with hh; subst hh; exact ⟨_, by simp [Op.unary]; rfl, by simp [VR]⟩
    · cases hh
  · cases hh

/-! ### conversions -/
theorem bytesOk_ok : ∀ {cs : List AV} {l : List Nat} {vs : List Value}, VRL c cs vs → bytesOk cs = some l →
    ∃ ns : List Int, vs = ns.map (Value.int .u8) ∧ l = ns.map (fun n => n.toNat % 256)
  | [], l, vs, hv, hb => by
    simp only [VRL] at hv; simp only [bytesOk, Option.some.injEq] at hb
    exact ⟨[], by simp [hv], by simp [← hb]⟩
  | x :: cs, l, vs, hv, hb => by
    unfold bytesOk at hb
    split at hb
    · rename_i h0; cases h0
    · rename_i n r h0
      injection h0 with h01 h02
      subst h01 h02
      split at hb
      · rename_i hn
        simp only [Option.map_eq_some_iff] at hb
        obtain ⟨l', hl', rfl⟩ := hb
        simp only [VRL] at hv
        obtain ⟨y, ys, rfl, hy, hys⟩ := hv
        simp only [VR] at hy; subst hy
        obtain ⟨ns, rfl, rfl⟩ := bytesOk_ok hys hl'
        exact ⟨n :: ns, by simp, by simp⟩
      · cases hb
    · cases hb
theorem bytesOf_nums (ns : List Int) : bytesOf (strOfNums ns) = ns.map (fun n => n.toNat % 256) := by
  simp [bytesOf, strOfNums_data]

theorem aConv_ok {src dst : TypeId} {x r : AV} {v : Value} (hr : Rel c h) (hx : VR c x v) (hh : aConv P src dst h x = some r) : ∃ z, (convert src dst v).run P c.w = .ok z c.w ∧ VR c r z := by
  unfold aConv at hh
  split at hh
  · rename_i d k k0 n hs hd
    injection hh with hh; subst hh
    simp only [VR] at hx; subst hx
    exact ⟨.int k (k.wrap n), by cases d <;> simp [convert, r_under hs, r_under hd, Conv.intToInt], by simp [VR]⟩
  · rename_i d l hs hd
    injection hh with hh; subst hh
    simp only [VR] at hx
    obtain ⟨s, rfl, rfl⟩ := hx
    exact ⟨.string s, by cases d <;> simp [convert, r_under hs, r_under hd], by simp [VR]⟩
  · rename_i e hs hd h0
    split at hh
    · rename_i he
      injection hh with hh; subst hh
      simp only [VR] at hx; subst hx
      exact ⟨.string ByteArray.empty, run_convert_bytes_nil c.w src e hs he 0 0 dst hd, by simp [VR, bytesOf]⟩
    · rename_i b off n m ex he
      split at hh
      · rename_i cs hg
        simp only [Option.map_eq_some_iff] at hh
        obtain ⟨l, hl, rfl⟩ := hh
        simp only [VR] at hx
        obtain ⟨_, m', rfl, _⟩ := hx
        obtain ⟨vs, hv1, hv2, hv3⟩ := cells_load hr hg
        obtain ⟨ns, rfl, rfl⟩ := bytesOk_ok hv1 hl
        simp only [List.length_map] at hv2
        refine ⟨.string (strOfNums ns), run_convert_bytes_arg c.w src e hs he _ _ n m' ns hv2 (fun i hi => ?_) dst hd, by simp [VR, bytesOf_nums]⟩
        rw [hv3 i (.int .u8 (ns.getD i 0)) (by simp [List.getD, List.getElem?_eq_getElem (show i < ns.length by omega)])]
      · cases hh
    · rename_i he
      injection hh with hh; subst hh
      simp only [VR] at hx
      obtain ⟨a, m, rfl⟩ := hx
      refine ⟨.string (strOfNums []), ?_, by simp [VR, bytesOf_nums]⟩
      obtain ⟨k, off, spot⟩ := a
      have hl : (loadCells ⟨k, off, spot⟩ 0).run P c.w = .ok (([] : List Int).map (Value.int .u8)).toArray c.w := by simp [loadCells, loadCellsFrom]
      rw [run_convert_bytes_string c.w src dst e _ 0 m hs he hd, run_bytesToString c.w _ 0 m [] hl]
      rfl
    · cases hh
  · rename_i t b off hs hd
    split at hh <;> try cases hh
    rename_i te cs ex ro hb
    split at hh <;> try cases hh
    rename_i hc
    simp only [VR] at hx
    obtain ⟨hdb, rfl⟩ := hx
    obtain ⟨g0, vcs, fr, g1, g2, g3, g4⟩ := hr.blk b _ hb
    simp only [Bool.and_eq_true, Nat.blt_eq] at hc
    obtain ⟨j, hj, hj0⟩ := info_of_size hc.2
    obtain ⟨v, hv, _⟩ := g2 off _ (List.getElem?_eq_getElem hc.1)
    exact ⟨_, Lib.run_to_unsafe c.w ⟨(c.rho b).1, (c.rho b).2 + off, none⟩ hs hd hj hj0 (e := te) (cells := vcs.size) (by simp [World.shape?, g1]) (Array.getElem?_eq_some_iff.1 hv).1, by simp [VR, hdb]⟩
  · rename_i u b off hs hd
    split at hh <;> try cases hh
    rename_i te cs ro hb
    split at hh <;> try cases hh
    rename_i hc
    simp only [VR] at hx
    obtain ⟨hdb, rfl⟩ := hx
    obtain ⟨g0, vcs, fr, g1, g2, g3, g4⟩ := hr.blk b _ hb
    simp only [Bool.and_eq_true] at hc
    obtain ⟨j, hj⟩ := info_of_hasT hc.1
    exact ⟨_, Lib.run_from_unsafe c.w ⟨(c.rho b).1, (c.rho b).2 + off, none⟩ hs hd hj (e := te) (cells := vcs.size) (by simp [World.shape?, g1]) (by simp only [g0, Nat.zero_add, g4 rfl]; exact hc.2), by simp [VR, hdb]⟩
  · cases hh
end
end Go.Vk
set_option linter.unusedSimpArgs false
set_option linter.unusedVariables false
namespace Go.Vk
section
variable {P : Program} {c : Cx} {h : Hp} {id : Nat}

theorem toBytes_good {src dst : TypeId} {x : AV} {v : Value} {l : List Nat} (hr : Rel c h) (hd : ¬ c.D id) (hid : id < h.nx) (hx : VR c x v) (hh : toBytes P src dst x = some l) :
    Good P c h id (convert src dst v) (.slice id 0 l.length l.length false 1, some (.row (l.map fun (n : Nat) => AV.int .u8 (n : Int)) false)) := by
  unfold toBytes at hh
  split at hh
  · rename_i d e s hs hdst
    split at hh
    · rename_i he
      injection hh with hh; subst hh
      simp only [VR] at hx
      obtain ⟨s, rfl, rfl⟩ := hx
      have hrun := Lib.run_convert_string_bytes (P := P) c.w src dst e s hs hdst he
      have hone : OneMore c.w (Lib.bytesWorld c.w e s) := ⟨rfl, rfl, rfl, Lib.bytesWorld_size _ _ _, fun k hk => Lib.bytesWorld_at_old _ _ _ k hk⟩
      have hnew := Lib.bytesWorld_at_new c.w e s
      have hge : s.size ≤ grownCap c.w s.size 0 e := by
        unfold grownCap
        simp [Question.cut]
      have hsz : (Lib.bytesCells c.w e s).size = grownCap c.w s.size 0 e := by
        simp [Lib.bytesCells]
        omega
      have hcell : ∀ (i n : Nat), (bytesOf s)[i]? = some n → (Lib.bytesCells c.w e s)[i]? = some (Value.int .u8 (n : Int)) := fun i n hn => by
        unfold bytesOf at hn
        simp only [List.getElem?_map, Option.map_eq_some_iff] at hn
        obtain ⟨b, hb, rfl⟩ := hn
        have hlt : i < s.size := by
          have := (List.getElem?_eq_some_iff.1 hb).1
          simpa using this
        have h2 := Lib.bytesWorld_cell c.w e s i hlt
        rw [cell?_row hnew] at h2
        rw [h2]
        simp [List.getD, hb]
      rw [bytesOf_length]
      refine Good.newW _ hone hr hd hid hrun (fun hle => ⟨Lib.bytesCells c.w e s, e, ((Lib.bytesCells c.w e s).size, (Lib.bytesCells c.w e s).size + 1), ?_, fun i y hy => ?_, fun _ => .inl (Nat.le_refl _)⟩) (fun hle => ?_)
      · simp only [put_rho, put_w]; exact hnew
      · simp only [List.getElem?_map, Option.map_eq_some_iff] at hy
        obtain ⟨n, hn, rfl⟩ := hy
        exact ⟨_, by simp only [put_rho, Nat.zero_add]; exact hcell i n hn, by simp [VR]⟩
      · simp only [VR, put_rho, put_w]
        refine ⟨put_d _, _, rfl, hge, hge, by simp, _, _, _, hnew, ?_⟩
        rw [hsz]; omega
    · cases hh
  · cases hh

/-! ### slices of slices -/
theorem natIn_ok {y n : Nat} {x : AV} {v : Value} {w : World} (code : BoundsCode) (hx : VR c x v) (hh : natIn y x = some n) : (Instr.sliceBound v y code).run P w = .ok n w ∧ n ≤ y := by
  unfold natIn at hh
  split at hh
  · rename_i k i
    simp only [VR] at hx; subst hx
    split at hh
    · rename_i hi
      injection hh with hh; subst hh
      refine ⟨by simp [Instr.sliceBound, asIntOf, hi], by omega⟩
    · cases hh
  · cases hh

def OptR (c : Cx) : Option AV → Option Value → Prop
  | none, none => True
  | some x, some v => VR c x v
  | _, _ => False

/-- The three bounds of a slice expression without a third index. -/
theorem bounds_ok {isS : Bool} {len cap cap' : Nat} {low high : Option AV} {lv hv : Option Value} {hi lo : Nat} {w : World} (hl : OptR c low lv) (hh : OptR c high hv) (hcap : cap ≤ cap')
    (h1 : highIn cap len high = some hi) (h2 : lowIn hi low = some lo) :
    (Instr.sliceBounds isS len cap' lv hv none).run P w = .ok (lo, hi, cap') w ∧ lo ≤ hi ∧ (hi ≤ cap ∨ hi = len) := by
  cases high with
  | none =>
    cases hv with
    | some v => simp [OptR] at hh
    | none =>
      simp only [highIn, Option.some.injEq] at h1; subst h1
      cases low with
      | none =>
        cases lv with
        | some v => simp [OptR] at hl
        | none => simp only [lowIn, Option.some.injEq] at h2; subst h2; exact ⟨by simp [Instr.sliceBounds], by omega, .inr rfl⟩
      | some x =>
        cases lv with
        | none => simp [OptR] at hl
        | some v =>
          have := natIn_ok (P := P) (w := w) .sliceB hl h2
          exact ⟨by simp [Instr.sliceBounds, this.1], this.2, .inr rfl⟩
  | some y =>
    cases hv with
    | none => simp [OptR] at hh
    | some u =>
      have hy : ∀ code, (Instr.sliceBound u cap' code).run P w = .ok hi w := fun code => by
        have h0 : natIn cap' y = some hi := by
          unfold highIn natIn at h1
          unfold natIn
          cases y <;> simp only at h1 ⊢ <;> try cases h1
          split at h1
          · rename_i hc; injection h1 with h1; subst h1; rw [if_pos (by omega)]
          · cases h1
        exact (natIn_ok code hh h0).1
      have hle : hi ≤ cap := (natIn_ok (P := P) (w := w) .sliceB hh h1).2
      cases low with
      | none =>
        cases lv with
        | some v => simp [OptR] at hl
        | none => simp only [lowIn, Option.some.injEq] at h2; subst h2; exact ⟨by cases isS <;> simp [Instr.sliceBounds, hy], by omega, .inl hle⟩
      | some x =>
        cases lv with
        | none => simp [OptR] at hl
        | some v =>
          have := natIn_ok (P := P) (w := w) .sliceB hl h2
          exact ⟨by cases isS <;> simp [Instr.sliceBounds, this.1, hy], this.2, .inl hle⟩

theorem bytesOf_extract (s : ByteArray) (lo hi : Nat) : bytesOf (s.extract lo hi) = ((bytesOf s).drop lo).take (hi - lo) := by
  simp only [bytesOf, ByteArray.data_extract, Array.toList_extract, List.extract_eq_take_drop, List.map_take, List.map_drop]

/-- A slice's value, cut. -/
theorem cutS_ok {b off lo hi cap m sz : Nat} {ex : Bool} (hd : c.D b) (hlo : lo ≤ hi) (hhi : hi ≤ cap) (hm : cap ≤ m) (hex : ex = true → m = cap)
    (hroom : room c.w (c.rho b).1 ((c.rho b).2 + off + m * sz)) :
    VR c (cutS b off lo hi cap ex sz) (.slice (if m = lo then some ⟨(c.rho b).1, (c.rho b).2 + off, none⟩ else (some (⟨(c.rho b).1, (c.rho b).2 + off, none⟩ : Addr)).map (·.add (lo * sz))) (hi - lo) (m - lo)) := by
  unfold cutS
  by_cases h0 : lo = 0
  · subst h0
    rw [if_pos rfl]
    simp only [VR]
    refine ⟨hd, m, ?_, by omega, hm, hex, hroom⟩
    split <;> simp [Addr.add]
  · rw [if_neg h0]
    by_cases h1 : lo < cap
    · rw [if_pos h1, if_neg (by omega)]
      simp only [VR]
      refine ⟨hd, m - lo, ?_, by omega, by omega, fun he => by rw [hex he], ?_⟩
      · simp only [Option.map_some, add_plain, Nat.add_assoc]
      · have : (m - lo) * sz + lo * sz = m * sz := by rw [← Nat.add_mul]; congr 1; omega
        rw [show (c.rho b).2 + (off + lo * sz) + (m - lo) * sz = (c.rho b).2 + off + m * sz by omega]
        exact hroom
    · rw [if_neg h1]
      have hlc : lo = cap := by omega
      have hhl : hi = lo := by omega
      subst hhl
      cases ex with
      | true =>
        have hmc := hex rfl
        rw [if_pos rfl, if_pos (by omega)]
        simp only [VR]
        refine ⟨hd, 0, by simp; omega, by omega, by omega, by simp, ?_⟩
        obtain ⟨cs, e, fr, hk, hn⟩ := hroom
        exact ⟨cs, e, fr, hk, by omega⟩
      | false =>
        simp only [Bool.false_eq_true, if_false, VR, Nat.sub_self]
        split
        · exact ⟨_, _, rfl⟩
        · exact ⟨_, _, rfl⟩

theorem aSlice_ok {t : TypeId} {x r : AV} {v : Value} {low high mx : Option AV} {lv hv mv : Option Value} {w : World} (hw : c.w = w) (hx : VR c x v) (hl : OptR c low lv) (hh : OptR c high hv) (hm : OptR c mx mv)
    (hs : aSlice P t x low high mx = some r) : ∃ z, (Instr.sliceAt t v lv hv mv).run P w = .ok z w ∧ VR c r z := by
  unfold aSlice at hs
  split at hs
  -- a string
  · rename_i s0 ht
    cases mx with
    | some _ => cases hs
    | none =>
      cases mv with
      | some _ => simp [OptR] at hm
      | none =>
        simp only at hs
        simp only [VR] at hx
        obtain ⟨s, rfl, rfl⟩ := hx
        split at hs
        · cases hs
        · rename_i hi hhi
          split at hs
          · cases hs
          · rename_i lo hlo
            injection hs with hs; subst hs
            rw [bytesOf_length] at hhi
            obtain ⟨h1, h2, h3⟩ := bounds_ok (P := P) (w := w) (isS := false) hl hh (Nat.le_refl _) hhi hlo
            exact ⟨.string (s.extract lo hi), by simp [Instr.sliceAt, Instr.slice, r_under ht, h1], by simp [VR, bytesOf_extract]⟩
  -- a slice
  · rename_i e b off len cap ex sz ht
    split at hs
    · cases hs
    · rename_i hc
      simp only [Bool.not_eq_true', Bool.not_eq_false, Bool.and_eq_true, beq_iff_eq] at hc
      obtain ⟨⟨he, hsz⟩, hlc⟩ := hc
      have hlc' : len ≤ cap := Nat.le_of_ble_eq_true hlc
      simp only [VR] at hx
      obtain ⟨hd, m, rfl, e1, e2, e3, e4⟩ := hx
      cases mx with
      | none =>
        cases mv with
        | some _ => simp [OptR] at hm
        | none =>
          simp only at hs
          split at hs
          · cases hs
          · rename_i hi hhi
            split at hs
            · cases hs
            · rename_i lo hlo
              injection hs with hs; subst hs
              obtain ⟨h1, h2, h3⟩ := bounds_ok (P := P) (w := w) (isS := true) hl hh e2 hhi hlo
              exact ⟨_, by simp [Instr.sliceAt, Instr.slice, r_under ht, h1, r_size' he, ← hsz], cutS_ok hd h2 (by omega) e2 e3 e4⟩
      | some my =>
        cases mv with
        | none => simp [OptR] at hm
        | some mval =>
          simp only at hs
          split at hs
          · rename_i mm hvv hmm
            split at hs
            · cases hs
            · rename_i hi hhi
              split at hs
              · cases hs
              · rename_i lo hlo
                injection hs with hs; subst hs
                cases hv with
                | none => simp [OptR] at hh
                | some hval =>
                  have hmm' : natIn m my = some mm := by
                    unfold natIn at hmm ⊢
                    cases my <;> simp only at hmm ⊢ <;> try cases hmm
                    split at hmm
                    · rename_i hcc; injection hmm with hmm; subst hmm; rw [if_pos (by omega)]
                    · cases hmm
                  have a1 := natIn_ok (P := P) (w := w) .slice3Acap hm hmm'
                  have a1' := (natIn_ok (P := P) (w := w) .slice3Acap hm hmm).2
                  have a2 := natIn_ok (P := P) (w := w) .slice3B hh hhi
                  have hrm : room c.w (c.rho b).1 ((c.rho b).2 + off + mm * sz) := by
                    obtain ⟨cs, ee, fr, hk, hn⟩ := e4
                    exact ⟨cs, ee, fr, hk, by have := Nat.mul_le_mul_right sz a1.2; omega⟩
                  cases low with
                  | none =>
                    cases lv with
                    | some _ => simp [OptR] at hl
                    | none =>
                      simp only [lowIn, Option.some.injEq] at hlo; subst hlo
                      exact ⟨_, by simp [Instr.sliceAt, Instr.slice, r_under ht, Instr.sliceBounds, a1.1, a2.1, r_size' he, ← hsz], cutS_ok hd (Nat.zero_le _) a2.2 (Nat.le_refl _) (fun _ => rfl) hrm⟩
                  | some lx =>
                    cases lv with
                    | none => simp [OptR] at hl
                    | some lval =>
                      have a3 := natIn_ok (P := P) (w := w) .slice3C hl hlo
                      exact ⟨_, by simp [Instr.sliceAt, Instr.slice, r_under ht, Instr.sliceBounds, a1.1, a2.1, a3.1, r_size' he, ← hsz], cutS_ok hd a3.2 a2.2 (Nat.le_refl _) (fun _ => rfl) hrm⟩
          · cases hs
  -- nil
  · rename_i e ht
    split at hs
    · cases hs
    · rename_i he
      simp only [Bool.not_eq_true', Bool.not_eq_false] at he
      cases mx with
      | some _ => cases hs
      | none =>
        cases mv with
        | some _ => simp [OptR] at hm
        | none =>
          simp only at hs
          simp only [VR] at hx; subst hx
          split at hs
          · cases hs
          · rename_i hi hhi
            split at hs
            · cases hs
            · rename_i lo hlo
              injection hs with hs; subst hs
              obtain ⟨h1, h2, h3⟩ := bounds_ok (P := P) (w := w) (isS := true) hl hh (Nat.le_refl 0) hhi hlo
              refine ⟨.slice none 0 0, ?_, by simp [VR]⟩
              simp [Instr.sliceAt, Instr.slice, r_under ht, h1, r_size' he]
              omega
  -- an empty one
  · rename_i e ht
    split at hs
    · cases hs
    · rename_i he
      simp only [Bool.not_eq_true', Bool.not_eq_false] at he
      cases mx with
      | some _ => cases hs
      | none =>
        cases mv with
        | some _ => simp [OptR] at hm
        | none =>
          simp only at hs
          simp only [VR] at hx; obtain ⟨a, m, rfl⟩ := hx
          split at hs
          · cases hs
          · rename_i hi hhi
            split at hs
            · cases hs
            · rename_i lo hlo
              injection hs with hs; subst hs
              obtain ⟨h1, h2, h3⟩ := bounds_ok (P := P) (w := w) (isS := true) (cap' := m) hl hh (Nat.zero_le m) hhi hlo
              have hlo0 : lo = 0 := by omega
              have hhi0 : hi = 0 := by omega
              subst hlo0 hhi0
              by_cases hm0 : m = 0
              · subst hm0
                refine ⟨.slice (some a) 0 0, ?_, by simp [VR]⟩
                simp [Instr.sliceAt, Instr.slice, r_under ht, h1, r_size' he]
              · refine ⟨.slice (some a) 0 m, ?_, by simp [VR]⟩
                simp [Instr.sliceAt, Instr.slice, r_under ht, h1, r_size' he, hm0, Addr.add]
  · cases hs
theorem aSliceArr_ok {h : Hp} {t : TypeId} {n : Nat} {e : TypeId} {x r : AV} {v : Value} {low high mx : Option AV} {lv hv mv : Option Value} (hr : Rel c h) (ht : P.underlying t = some (.array n e)) (hx : VR c x v) (hl : OptR c low lv) (hh : OptR c high hv) (hm : OptR c mx mv)
    (hs : aSliceArr P n e h x low high mx = some r) : ∃ z, (Instr.sliceAt t v lv hv mv).run P c.w = .ok z c.w ∧ VR c r z := by
  unfold aSliceArr at hs
  split at hs
  · rename_i b off
    cases mv with
    | some _ => simp [OptR] at hm
    | none =>
      split at hs
      · rename_i he0
        simp only [Bool.and_eq_true] at he0
        obtain ⟨he, hpos⟩ := he0
        have hpos' : 0 < n * sizeT P e := Nat.le_of_ble_eq_true hpos
        split at hs
        · rename_i cs hg
          split at hs
          · cases hs
          · rename_i hi hhi
            split at hs
            · cases hs
            · rename_i lo hlo
              injection hs with hs; subst hs
              obtain ⟨h1, h2, h3⟩ := bounds_ok (P := P) (w := c.w) (isS := false) (len := n) hl hh (Nat.le_refl n) hhi hlo
              simp only [VR] at hx
              obtain ⟨hd, rfl⟩ := hx
              have hroom : room c.w (c.rho b).1 ((c.rho b).2 + off + n * sizeT P e) := by
                unfold getCells at hg
                split at hg
                · rename_i all ro hb
                  split at hg
                  · rename_i hle
                    obtain ⟨vs, e1, fr, k1, k2, _⟩ := hr.blk b _ hb
                    refine ⟨vs, e1, fr, k1, ?_⟩
                    obtain ⟨y, hy, _⟩ := k2 (off + n * sizeT P e - 1) (all[off + n * sizeT P e - 1]'(by omega)) (by simp)
                    have := (Array.getElem?_eq_some_iff.1 hy).1
                    omega
                  · cases hg
                · cases hg
              refine ⟨_, ?_, cutS_ok hd h2 (by omega) (Nat.le_refl _) (fun _ => rfl) hroom⟩
              simp [Instr.sliceAt, r_under ht, Instr.sureAddr, h1, r_size' he]
              split <;> rfl
        · cases hs
      · cases hs
  · cases hs
end
end Go.Vk
set_option linter.unusedSimpArgs false
set_option linter.unusedVariables false
namespace Go.Vk
section
variable {P : Program} {c : Cx} {h : Hp} {id : Nat}

theorem fieldT_some {t : TypeId} {i o : Nat} {ft : TypeId} (h : fieldT P t i = some (o, ft)) : ∃ (fs : Array Field) (f : Field), P.underlying t = some (.struct fs) ∧ fs[i]? = some f ∧ f.offset = o ∧ f.type = ft := by
  unfold fieldT at h
  split at h
  · rename_i fs hfs
    split at h
    · rename_i f hf
      injection h with h; injection h with h1 h2
      exact ⟨fs, f, hfs, hf, h1, h2⟩
    · cases h
  · cases h
theorem r_size_pos {t : TypeId} {w : World} (h : 0 < sizeT P t) : (sizeOf t).run P w = .ok (sizeT P t) w := by
  unfold sizeT at h ⊢
  split at h
  · rename_i i hi; rw [r_size hi]
  · omega

theorem fieldAddr_ok {t : TypeId} {b off o i : Nat} {ft : TypeId} {v : Value} {w : World} (hx : VR c (.ptr b off) v) (hf : fieldT P t i = some (o, ft)) (hs : 0 < sizeT P ft) :
    ∃ z, (Instr.fieldAt t v i).run P w = .ok z w ∧ VR c (.ptr b (off + o)) z := by
  obtain ⟨fs, f, h1, h2, rfl, rfl⟩ := fieldT_some hf
  simp only [VR] at hx
  obtain ⟨hd, rfl⟩ := hx
  refine ⟨.pointer (some ⟨(c.rho b).1, (c.rho b).2 + off + f.offset, none⟩), ?_, by simp [VR, hd, Nat.add_assoc]⟩
  simp only [Instr.fieldAt, Sem.run_bind, r_under h1, Result.andThen_ok, h2, Instr.sureAddr, Sem.run_pure, fieldPlace, r_size_pos hs]
  rw [if_neg (by omega)]
  simp [add_plain]

theorem partT_ok {t : TypeId} {cs : List AV} {vs : Array Value} {off : Nat} {r : AV} {w : World} (ht : hasT P t = true) (hc : VRL c cs vs.toList) (hp : partT P t cs off = some r) :
    ∃ z, (part t vs off).run P w = .ok z w ∧ VR c r z := by
  obtain ⟨d, hd⟩ := under_of_hasT ht
  unfold partT at hp
  split at hp
  · rename_i hl
    unfold packT at hp
    by_cases ha : aggT P t = true
    · simp only [ha, if_true] at hp
      injection hp with hp; subst hp
      refine ⟨.agg (vs.extract off (off + sizeT P t)), ?_, ?_⟩
      · simp only [part, Sem.run_bind, r_agg hd, Result.andThen_ok, ha, if_true, r_size' ht, Sem.run_pure]
      · simp only [VR]
        refine ⟨_, rfl, ?_⟩
        rw [Array.toList_extract, List.extract_eq_take_drop, Nat.add_sub_cancel_left]
        exact hc.drop.take
    · have ha' : aggT P t = false := by simpa using ha
      simp only [ha', Bool.false_eq_true, if_false] at hp
      split at hp
      · rename_i v hv
        injection hp with hp; subst hp
        have h0 : cs[off]? = some v := by
          have h1 := congrArg (fun l => l[0]?) hv
          simp only [List.getElem?_cons_zero] at h1
          have hpos : 0 < sizeT P t := by
            rcases Nat.eq_zero_or_pos (sizeT P t) with h2 | h2
            · rw [h2] at hv; simp at hv
            · exact h2
          rw [List.getElem?_take_of_lt hpos, List.getElem?_drop] at h1
          simpa using h1
        obtain ⟨z, hz, hr⟩ := hc.get h0
        exact ⟨z, r_part_one hd ha' (by simpa using hz), hr⟩
      · cases hp
  · cases hp

theorem field_ok {t : TypeId} {cs : List AV} {o i : Nat} {ft : TypeId} {v : Value} {r : AV} {w : World} (hx : VR c (.agg cs) v) (hf : fieldT P t i = some (o, ft)) (hs : hasT P ft = true) (hp : partT P ft cs o = some r) :
    ∃ z, (Instr.field t v i).run P w = .ok z w ∧ VR c r z := by
  obtain ⟨fs, f, h1, h2, rfl, rfl⟩ := fieldT_some hf
  simp only [VR] at hx
  obtain ⟨vs, rfl, hvs⟩ := hx
  obtain ⟨z, hz, hr⟩ := partT_ok (P := P) (w := w) hs hvs hp
  exact ⟨z, by simp [Instr.field, r_under h1, h2, asAgg, hz], hr⟩

theorem indexAddr_slice_ok {t e : TypeId} {b off len cap sz : Nat} {ex : Bool} {k : IntKind} {n : Int} {v u : Value} {w : World} (ht : P.underlying t = some (.slice e)) (hx : VR c (.slice b off len cap ex sz) v) (hi : VR c (.int k n) u)
    (hn : 0 ≤ n ∧ n < len ∧ hasT P e = true ∧ sz = sizeT P e) : ∃ z, (Instr.indexAt t v u).run P w = .ok z w ∧ VR c (.ptr b (off + n.toNat * sz)) z := by
  obtain ⟨h0, h1, h2, rfl⟩ := hn
  simp only [VR] at hx hi
  subst hi
  obtain ⟨hd, m, rfl, _⟩ := hx
  refine ⟨.pointer (some ⟨(c.rho b).1, (c.rho b).2 + off + n.toNat * sizeT P e, none⟩), ?_, by simp [VR, hd, Nat.add_assoc]⟩
  simp [Instr.indexAt, asIntOf, r_under ht, h0, h1, r_size' h2, add_plain]

theorem indexAddr_array_ok {t e : TypeId} {b off len : Nat} {k : IntKind} {n : Int} {v u : Value} {w : World} (ht : P.underlying t = some (.array len e)) (hx : VR c (.ptr b off) v) (hi : VR c (.int k n) u)
    (hn : 0 ≤ n ∧ n < len ∧ hasT P e = true) : ∃ z, (Instr.indexAt t v u).run P w = .ok z w ∧ VR c (.ptr b (off + n.toNat * sizeT P e)) z := by
  obtain ⟨h0, h1, h2⟩ := hn
  simp only [VR] at hx hi
  subst hi
  obtain ⟨hd, rfl⟩ := hx
  refine ⟨.pointer (some ⟨(c.rho b).1, (c.rho b).2 + off + n.toNat * sizeT P e, none⟩), ?_, by simp [VR, hd, Nat.add_assoc]⟩
  simp [Instr.indexAt, asIntOf, r_under ht, h0, h1, r_size' h2, add_plain, Instr.sureAddr]

theorem index_string_ok {t : TypeId} {s : ByteArray} {k : IntKind} {n : Int} {a : Nat} {u : Value} {w : World} (ht : P.underlying t = some .string) (hi : VR c (.int k n) u) (h0 : 0 ≤ n) (ha : (bytesOf s)[n.toNat]? = some a) :
    ∃ z, (Instr.index t (.string s) u).run P w = .ok z w ∧ VR c (.int .u8 a) z := by
  simp only [VR] at hi; subst hi
  unfold bytesOf at ha
  simp only [List.getElem?_map, Option.map_eq_some_iff] at ha
  obtain ⟨x, hx, rfl⟩ := ha
  have hx' : s[n.toNat]? = some x := by
    rw [← hx]
    by_cases hl : n.toNat < s.size
    · simp [getElem?_pos, hl]; rfl
    · simp [getElem?_neg, hl] <;> exact Nat.le_of_not_lt hl
  exact ⟨.int .u8 x.toNat, by simp [Instr.index, asIntOf, r_under ht, h0, hx'], by simp [VR]⟩

theorem index_array_ok {t e : TypeId} {len : Nat} {cs : List AV} {k : IntKind} {n : Int} {v u : Value} {r : AV} {w : World} (ht : P.underlying t = some (.array len e)) (hx : VR c (.agg cs) v) (hi : VR c (.int k n) u)
    (hn : 0 ≤ n ∧ n < len ∧ hasT P e = true) (hp : partT P e cs (n.toNat * sizeT P e) = some r) : ∃ z, (Instr.index t v u).run P w = .ok z w ∧ VR c r z := by
  obtain ⟨h0, h1, h2⟩ := hn
  simp only [VR] at hx hi
  subst hi
  obtain ⟨vs, rfl, hvs⟩ := hx
  obtain ⟨z, hz, hr⟩ := partT_ok (P := P) (w := w) h2 hvs hp
  exact ⟨z, by simp [Instr.index, asIntOf, r_under ht, h0, h1, r_size' h2, hz], hr⟩

theorem extract_ok {vs : List AV} {i : Nat} {r : AV} {v : Value} {w : World} (hx : VR c (.tup vs) v) (hr : vs[i]? = some r) : ∃ z, (Instr.extract v i).run P w = .ok z w ∧ VR c r z := by
  simp only [VR] at hx
  obtain ⟨us, rfl, hus⟩ := hx
  obtain ⟨z, hz, hrz⟩ := hus.get hr
  refine ⟨z, ?_, hrz⟩
  have : us[i]? = some z := by simpa using hz
  simp [Instr.extract, this]

theorem range_good {t : TypeId} {l : List Nat} {v : Value} (hr : Rel c h) (hd : ¬ c.D id) (hid : id < h.nx) (ht : P.underlying t = some .string) (hx : VR c (.str l) v) :
    Good P c h id (Instr.range t v) (.ptr id 0, some (.iter l 0)) := by
  simp only [VR] at hx
  obtain ⟨s, rfl, rfl⟩ := hx
  refine Good.newW _ (alloc_more _ (.stringIter s 0)) hr hd hid (x := .pointer (some ⟨c.w.heap.size, 0, none⟩)) (by simp [Instr.range, r_under ht]) (fun hle => ?_) (fun hle => ?_)
  · simp only [BR, put_rho, put_w]; exact ⟨trivial, s, alloc_new _ _, rfl⟩
  · simp [VR, put_rho, put_d]

/-! ### len, min, max -/
theorem len_ok {t ty : TypeId} {x r : AV} {v : Value} (hr : Rel c h) (hx : VR c x v) (hh : aLen P t h x = some r) : ∃ z, (Builtin.len_ #[t] ty #[v]).run P c.w = .ok z c.w ∧ VR c r z := by
  unfold aLen at hh
  split at hh
  · rename_i l ht
    injection hh with hh; subst hh
    simp only [VR] at hx
    obtain ⟨s, rfl, rfl⟩ := hx
    exact ⟨goInt s.size, by simp [Builtin.len_, r_under ht], by simp [VR, goInt, bytesOf_length]⟩
  · rename_i e ht
    injection hh with hh; subst hh
    simp only [VR] at hx; subst hx
    exact ⟨goInt 0, by simp [Builtin.len_, r_under ht], by simp [VR, goInt]⟩
  · rename_i e ht
    injection hh with hh; subst hh
    simp only [VR] at hx; obtain ⟨a, m, rfl⟩ := hx
    exact ⟨goInt 0, by simp [Builtin.len_, r_under ht], by simp [VR, goInt]⟩
  · rename_i e b off n cap ex sz ht
    injection hh with hh; subst hh
    simp only [VR] at hx; obtain ⟨_, m, rfl, _⟩ := hx
    exact ⟨goInt n, by simp [Builtin.len_, r_under ht], by simp [VR, goInt]⟩
  · rename_i k e ht
    injection hh with hh; subst hh
    simp only [VR] at hx; subst hx
    exact ⟨goInt 0, by simp [Builtin.len_, r_under ht], by simp [VR, goInt]⟩
  · rename_i k e b ht
    split at hh
    · rename_i es clock hb
      injection hh with hh; subst hh
      simp only [VR] at hx; obtain ⟨_, rfl⟩ := hx
      obtain ⟨_, ents, h1, h2⟩ := hr.blk b _ hb
      have hl : ∀ {es : List (AV × AV × Nat)} {l : List MapEntry}, ER c es l → l.length = es.length := by
        intro es
        induction es with
        | nil => intro l hl; simp only [ER] at hl; simp [hl]
        | cons a es ih => obtain ⟨k, v, n⟩ := a; intro l hl; simp only [ER] at hl; obtain ⟨e, es', rfl, _, _, _, h6⟩ := hl; simp [ih h6]
      refine ⟨goInt ents.size, ?_, by have := hl h2; simp [VR, goInt] at this ⊢; omega⟩
      simp [Builtin.len_, r_under ht, getObj, Sem.run, h1]
    · cases hh
  · rename_i x0 n e ht
    injection hh with hh; subst hh
    exact ⟨goInt n, by simp [Builtin.len_, r_under ht], by simp [VR, goInt]⟩
  · cases hh

theorem minA_ok {w : World} : ∀ {xs : List AV} {x r : AV} {v : Value} {vs : List Value}, VR c x v → VRL c xs vs → minA x xs = some r → ∃ z, (vs.foldlM Builtin.min2 v).run P w = .ok z w ∧ VR c r z
  | [], x, r, v, vs, hx, hxs, hh => by
    simp only [VRL] at hxs; subst hxs
    unfold minA at hh
    split at hh
    · injection hh with hh; subst hh; exact ⟨v, by simp, hx⟩
    · rename_i h0; cases h0
    · cases hh
  | y :: xs, x, r, v, vs, hx, hxs, hh => by
    unfold minA at hh
    split at hh
    · rename_i h0; cases h0
    · rename_i k a l b rr h0
      injection h0 with h01 h02; subst h01 h02
      simp only [VRL] at hxs
      obtain ⟨u, us, rfl, hu, hus⟩ := hxs
      simp only [VR] at hx hu; subst hx hu
      obtain ⟨z, hz, hr⟩ := minA_ok (w := w) (v := .int k (if b < a then b else a)) (by simp [VR]) hus hh
      exact ⟨z, by simp only [List.foldlM_cons, Builtin.min2, Sem.run_bind, Sem.run_pure, Result.andThen_ok]; exact hz, hr⟩
    · cases hh
theorem maxA_ok {w : World} : ∀ {xs : List AV} {x r : AV} {v : Value} {vs : List Value}, VR c x v → VRL c xs vs → maxA x xs = some r → ∃ z, (vs.foldlM Builtin.max2 v).run P w = .ok z w ∧ VR c r z
  | [], x, r, v, vs, hx, hxs, hh => by
    simp only [VRL] at hxs; subst hxs
    unfold maxA at hh
    split at hh
    · injection hh with hh; subst hh; exact ⟨v, by simp, hx⟩
    · rename_i h0; cases h0
    · cases hh
  | y :: xs, x, r, v, vs, hx, hxs, hh => by
    unfold maxA at hh
    split at hh
    · rename_i h0; cases h0
    · rename_i k a l b rr h0
      injection h0 with h01 h02; subst h01 h02
      simp only [VRL] at hxs
      obtain ⟨u, us, rfl, hu, hus⟩ := hxs
      simp only [VR] at hx hu; subst hx hu
      obtain ⟨z, hz, hr⟩ := maxA_ok (w := w) (v := .int k (if b > a then b else a)) (by simp [VR]) hus hh
      exact ⟨z, by simp only [List.foldlM_cons, Builtin.max2, Sem.run_bind, Sem.run_pure, Result.andThen_ok]; exact hz, hr⟩
    · cases hh
end
end Go.Vk
set_option linter.unusedSimpArgs false
set_option linter.unusedVariables false
namespace Go.Vk
section
variable {P : Program} {c : Cx} {h : Hp} {id : Nat}

theorem eqOne_check {t : TypeId} {x y : AV} {v : Value} {b : Bool} {w : World} (em : Bool) (n : Nat) (hx : VR c x v) (hh : eqOne P t x y = some b) : (Instr.checkKey em (n + 1) t v).run P w = .ok () w := by
  unfold eqOne at hh
  split at hh
  · rename_i a b' hu; simp only [VR] at hx; subst hx; simp [Instr.checkKey, r_under hu]
  · rename_i k0 k a l b' hu; simp only [VR] at hx; subst hx; simp [Instr.checkKey, r_under hu]
  · rename_i a b' hu; simp only [VR] at hx; obtain ⟨s, rfl, _⟩ := hx; simp [Instr.checkKey, r_under hu]
  · cases hh

theorem eqFlat_check (em : Bool) (n : Nat) {w : World} : ∀ (fs : List Field) (i : Nat) (xs ys : List AV) (b : Bool) (vs : Array Value), VRL c xs (vs.toList.drop i) →
    eqFlat P fs i xs ys = some b → ((forIn fs PUnit.unit fun (f : Field) (_ : PUnit) => (if f.name ≠ "_" then do Instr.checkKey em (n + 1) f.type (← part f.type vs f.offset); pure (ForInStep.yield PUnit.unit) else pure (ForInStep.yield PUnit.unit) : Sem (ForInStep PUnit))).run P w) = .ok PUnit.unit w
  | [], i, xs, ys, b, vs, _, h => by simp
  | f :: fs, i, [], _, b, vs, _, h => by simp [eqFlat] at h
  | f :: fs, i, _ :: _, [], b, vs, _, h => by simp [eqFlat] at h
  | f :: fs, i, x :: xs, y :: ys, b, vs, hx, h => by
    simp only [eqFlat] at h
    split at h
    · rename_i hc
      simp only [Bool.and_eq_true] at hc
      have ho : f.offset = i := Nat.eq_of_beq_eq_true hc.1
      have hn : f.name ≠ "_" := by simpa using hc.2
      split at h
      · rename_i p q hp hq
        simp only [VRL] at hx
        obtain ⟨v, vr, ev, hv, hvr⟩ := hx
        have hvi : vs[i]? = some v := by
          have := congrArg (fun l => l[0]?) ev
          simp only [List.getElem?_drop, Nat.add_zero, List.getElem?_cons_zero] at this
          simpa using this
        have hd1 : vs.toList.drop (i + 1) = vr := by rw [← List.drop_drop, ev]; rfl
        have ih := eqFlat_check em n (w := w) fs (i + 1) xs ys q vs (by rw [hd1]; exact hvr) hq
        have hag := eqOne_plain hp
        have hun : ∃ dd, P.underlying f.type = some dd := by
          unfold eqOne at hp
          split at hp <;> first | (rename_i hu0; exact ⟨_, hu0⟩) | cases hp
        obtain ⟨dd, hdd⟩ := hun
        simp only [List.forIn_cons, if_pos hn, Sem.run_bind, ho, r_part_one hdd hag hvi, Result.andThen_ok, eqOne_check em n hv hp, Sem.run_pure]
        exact ih
      · cases h
    · cases h

theorem checkKey_struct {t : TypeId} {fs : Array Field} {vs : Array Value} {w : World} (em : Bool) (n : Nat) (hfs : P.underlying t = some (.struct fs))
    (hf : ((forIn fs.toList PUnit.unit fun (f : Field) (_ : PUnit) => (if f.name ≠ "_" then do Instr.checkKey em n f.type (← part f.type vs f.offset); pure (ForInStep.yield PUnit.unit) else pure (ForInStep.yield PUnit.unit) : Sem (ForInStep PUnit))).run P w) = .ok PUnit.unit w) :
    (Instr.checkKey em (n + 1) t (.agg vs)).run P w = .ok () w := by
  rw [Instr.checkKey]
  simp only [Sem.run_bind, r_under hfs, Result.andThen_ok]
  rw [Array.forIn_toList] at hf
  simp only [hf, Sem.run_bind, Result.andThen_ok, Sem.run_pure]

theorem keyOk_check {t : TypeId} {x : AV} {v : Value} {w : World} (em : Bool) (n : Nat) (hx : VR c x v) (hh : keyOk P t x = true) : (Instr.checkKey em (n + 2) t v).run P w = .ok () w := by
  unfold keyOk at hh
  split at hh
  · rename_i b hb
    unfold keyEq at hb
    split at hb
    · skip
      simp only [VR] at hx
      obtain ⟨vs, rfl, hvs⟩ := hx
      unfold eqStruct at hb
      split at hb
      · rename_i fs hfs
        split at hb
        · exact checkKey_struct em (n + 1) hfs (eqFlat_check (P := P) em n (w := w) fs.toList 0 _ _ b vs (by simpa using hvs) hb)
        · cases hb
      · cases hb
    · exact eqOne_check em (n + 1) hx hb
  · cases hh

/-- What a search says of entries that read as such a list. -/
def Found (c : Cx) (P : Program) (t : TypeId) (k : AV) (es : List (AV × AV × Nat)) (ents : List MapEntry) (i : Nat) : Option (AV × Nat) → Option (Nat × Value) → Prop
  | none, r => r = none
  | some (v, n), r => ∃ j e, r = some (i + j, e.val) ∧ ents[j]? = some e ∧ VR c v e.val ∧ e.born = n ∧ (∃ k', VR c k' e.key ∧ keyEq P t k k' = some true) ∧
      ∀ (key' val' : Value) (v' : AV), VR c k key' → VR c v' val' → ER c (updE P t k v' es) (ents.modify j fun e => { e with key := key', val := val' })

theorem Found.next {t : TypeId} {k k0 v0 : AV} {n0 : Nat} {es : List (AV × AV × Nat)} {e0 : MapEntry} {ents : List MapEntry} {i : Nat} {r : Option (AV × Nat)} {q : Option (Nat × Value)}
    (h0 : VR c k0 e0.key) (h1 : VR c v0 e0.val) (h2 : e0.born = n0) (hne : keyEq P t k k0 = some false) (h : Found c P t k es ents (i + 1) r q) : Found c P t k ((k0, v0, n0) :: es) (e0 :: ents) i r q := by
  cases r with
  | none => exact h
  | some p =>
    obtain ⟨v, n⟩ := p
    obtain ⟨j, e, a1, a2, a3, a4, a5, a6⟩ := h
    refine ⟨j + 1, e, by rw [a1]; congr 2; omega, by simpa using a2, a3, a4, a5, fun key' val' v' hk hv => ?_⟩
    simp only [updE, hne, List.modify_succ_cons, ER]
    exact ⟨e0, _, rfl, h0, h1, h2, a6 key' val' v' hk hv⟩

theorem findAsking_ok {t : TypeId} {k : AV} {kv : Value} {w : World} (hk : VR c k kv) : ∀ {es : List (AV × AV × Nat)} {ents : List MapEntry} {i : Nat} {r : Option (AV × Nat)}, ER c es ents → findE P t k es = some r →
    ∃ q, (Instr.findAsking t kv ents i).run P w = .ok q w ∧ Found c P t k es ents i r q
  | [], ents, i, r, he, hf => by
    simp only [ER] at he; subst he
    simp only [findE, Option.some.injEq] at hf; subst hf
    exact ⟨none, by simp [Instr.findAsking], rfl⟩
  | (k0, v0, n0) :: es, ents, i, r, he, hf => by
    simp only [ER] at he
    obtain ⟨e, es', rfl, h1, h2, h3, h4⟩ := he
    simp only [findE] at hf
    split at hf
    · rename_i heq
      injection hf with hf; subst hf
      have hrun : (Op.equal t kv e.key).run P w = .ok true w := equal_deep (keyEq_ok 9998 hk h1 heq)
      refine ⟨some (i, e.val), by simp [Instr.findAsking, hrun], 0, e, by simp, by simp, h2, h3, ⟨k0, h1, heq⟩, fun key' val' v' hk' hv' => ?_⟩
      simp only [updE, heq, List.modify_zero_cons, ER]
      exact ⟨_, _, rfl, hk', hv', h3, h4⟩
    · rename_i heq
      have hrun : (Op.equal t kv e.key).run P w = .ok false w := equal_deep (keyEq_ok 9998 hk h1 heq)
      obtain ⟨q, hq, hfd⟩ := findAsking_ok (w := w) hk (i := i + 1) h4 hf
      exact ⟨q, by simp [Instr.findAsking, hrun, hq], Found.next h1 h2 h3 heq hfd⟩
    · cases hf

theorem sameNow_ok {t : TypeId} {d : TypeDesc} {x y : AV} {v u : Value} {b : Bool} (hd : P.underlying t = some d) (hx : VR c x v) (hy : VR c y u) (hh : eqOne P t x y = some b) : Instr.sameNow d v u = some b := by
  unfold eqOne at hh
  rw [hd] at hh
  split at hh
  · rename_i h0; injection h0 with h0; subst h0; injection hh with hh; subst hh; simp only [VR] at hx hy; subst hx hy; rfl
  · rename_i h0; injection h0 with h0; subst h0
    simp only [VR] at hx hy; subst hx hy
    split at hh
    · rename_i hk; injection hh with hh; subst hh; simp [Instr.sameNow, hk]
    · cases hh
  · rename_i h0; injection h0 with h0; subst h0; injection hh with hh; subst hh
    simp only [VR] at hx hy; obtain ⟨s, rfl, rfl⟩ := hx; obtain ⟨s', rfl, rfl⟩ := hy
    simp only [Instr.sameNow]
    rw [bytesOf_beq, beq_toListBytes]
  · cases hh

theorem findNow_ok {t : TypeId} {d : TypeDesc} {k : AV} {kv : Value} (hd : P.underlying t = some d) (hk : VR c k kv) (hag : ∀ xs, k ≠ .agg xs) : ∀ {es : List (AV × AV × Nat)} {ents : List MapEntry} {i : Nat} {r : Option (AV × Nat)},
    ER c es ents → findE P t k es = some r → ∃ q, Instr.findNow d kv ents i = some q ∧ Found c P t k es ents i r q
  | [], ents, i, r, he, hf => by
    simp only [ER] at he; subst he
    simp only [findE, Option.some.injEq] at hf; subst hf
    exact ⟨none, rfl, rfl⟩
  | (k0, v0, n0) :: es, ents, i, r, he, hf => by
    simp only [ER] at he
    obtain ⟨e, es', rfl, h1, h2, h3, h4⟩ := he
    have hone : ∀ b, keyEq P t k k0 = some b → eqOne P t k k0 = some b := fun b hb => by
      unfold keyEq at hb
      split at hb
      · exact absurd rfl (hag _)
      · exact hb
    simp only [findE] at hf
    split at hf
    · rename_i heq
      injection hf with hf; subst hf
      have hs := sameNow_ok hd hk h1 (hone _ heq)
      refine ⟨some (i, e.val), by simp [Instr.findNow, hs], 0, e, by simp, by simp, h2, h3, ⟨k0, h1, heq⟩, fun key' val' v' hk' hv' => ?_⟩
      simp only [updE, heq, List.modify_zero_cons, ER]
      exact ⟨_, _, rfl, hk', hv', h3, h4⟩
    · rename_i heq
      have hs := sameNow_ok hd hk h1 (hone _ heq)
      obtain ⟨q, hq, hfd⟩ := findNow_ok hd hk hag (i := i + 1) h4 hf
      exact ⟨q, by simp [Instr.findNow, hs, hq], Found.next h1 h2 h3 heq hfd⟩
    · cases hf

theorem findKey_ok {t : TypeId} {k : AV} {kv : Value} {w : World} {es : List (AV × AV × Nat)} {ents : List MapEntry} {r : Option (AV × Nat)} (hok : keyOk P t k = true) (hk : VR c k kv) (he : ER c es ents) (hf : findE P t k es = some r) :
    ∃ q, (Instr.findKey t kv ents).run P w = .ok q w ∧ Found c P t k es ents 0 r q := by
  have hun : ∃ d, P.underlying t = some d := by
    cases hu : P.underlying t with
    | some d => exact ⟨d, rfl⟩
    | none =>
      exfalso
      unfold keyOk at hok
      cases k <;> simp [keyEq, eqOne, eqStruct, hu] at hok
  obtain ⟨d, hd⟩ := hun
  by_cases hag : ∃ xs, k = .agg xs
  · obtain ⟨xs, rfl⟩ := hag
    simp only [Instr.findKey, Sem.run_bind, r_under hd, Result.andThen_ok]
    cases es with
    | nil =>
      simp only [ER] at he; subst he
      simp only [findE, Option.some.injEq] at hf; subst hf
      exact ⟨none, by simp [Instr.findNow], rfl⟩
    | cons e0 es =>
      obtain ⟨q, hq, hfd⟩ := findAsking_ok (w := w) hk (i := 0) he hf
      refine ⟨q, ?_, hfd⟩
      obtain ⟨k0, v0, n0⟩ := e0
      simp only [ER] at he
      obtain ⟨e, es', rfl, _⟩ := he
      simp only [VR] at hk
      obtain ⟨vs, rfl, _⟩ := hk
      have : Instr.findNow d (.agg vs) (e :: es') 0 = none := by
        simp only [Instr.findNow]
        cases d <;> cases e.key <;> rfl
      simp only [this]
      exact hq
  · obtain ⟨q, hq, hfd⟩ := findNow_ok (i := 0) hd hk (fun xs hx => hag ⟨xs, hx⟩) he hf
    exact ⟨q, by simp [Instr.findKey, r_under hd, hq], hfd⟩

theorem keyT_some {t kt e : TypeId} (h : keyT P t = some (kt, e)) : P.underlying t = some (.map kt e) := by
  unfold keyT at h
  split at h
  · rename_i h0; injection h with h; injection h with h1 h2; subst h1 h2; exact h0
  · cases h

theorem r_zeroA {t : TypeId} {z : AV} {w : World} (h : zeroA P t = some z) : ∃ v : Value, z = absC v ∧ (zeroValue t).run P w = .ok v w := by
  unfold zeroA at h
  split at h
  · rename_i i hi
    split at h
    · rename_i v hv
      injection h with h
      exact ⟨v, h.symm, by simp [zeroValue, r_info hi, hv]⟩
    · cases h
  · cases h

theorem mapIn_ok {x : AV} {v : Value} {es : List (AV × AV × Nat)} (hr : Rel c h) (hx : VR c x v) (hm : mapIn h x = some es) :
    (v = .map none ∧ es = []) ∨ ∃ b clock ents, x = .map b ∧ h.m.get b = some (.map es clock) ∧ v = .map (some (c.rho b).1) ∧ c.w.heap[(c.rho b).1]? = some (.map ents clock) ∧ ER c es ents.toList := by
  unfold mapIn at hm
  split at hm
  · injection hm with hm; subst hm; simp only [VR] at hx; exact .inl ⟨hx, rfl⟩
  · rename_i b
    split at hm
    · rename_i es' clock hb
      injection hm with hm; subst hm
      simp only [VR] at hx
      obtain ⟨_, ents, h1, h2⟩ := hr.blk b _ hb
      exact .inr ⟨b, clock, ents, rfl, hb, hx.2, h1, h2⟩
    · cases hm
  · cases hm

theorem r_getObj_map {w : World} {r : Nat} {es : Array MapEntry} {clock : Nat} (hb : w.heap[r]? = some (.map es clock)) : (getObj r).run P w = .ok (.map es clock) w := by
  simp [getObj, Sem.run, hb]

theorem lookup_ok {t : TypeId} {x k r : AV} {ok : Bool} {v u : Value} (hr : Rel c h) (hx : VR c x v) (hk : VR c k u) (hh : aLookup P t h x k ok = some r) :
    ∃ z, (Instr.lookup t v u ok).run P c.w = .ok z c.w ∧ VR c r z := by
  unfold aLookup at hh
  split at hh
  · cases hh
  · rename_i kt e hkt
    have ht := keyT_some hkt
    split at hh
    · rename_i zv es hz hm
      split at hh
      · rename_i hok
        obtain ⟨zval, rfl, hzr⟩ := r_zeroA (w := c.w) hz
        have cont : ∀ ents : Array MapEntry, ER c es ents.toList → ∃ z, (do
              Instr.checkKey ents.isEmpty 10000 kt u
              let x ← Instr.findKey kt u ents.toList
              match x with
                | some (_, v) => do
                  let y ← pure (v, true)
                  pure (if ok = true then Value.tuple #[y.1, Value.bool y.2] else y.1)
                | none => do
                  let z ← zeroValue e
                  let y ← pure (z, false)
                  pure (if ok = true then Value.tuple #[y.1, Value.bool y.2] else y.1) : Sem Value).run P c.w = .ok z c.w ∧ VR c r z := by
          intro ents he2
          have hck := keyOk_check (P := P) (w := c.w) ents.isEmpty 9998 hk hok
          have hck' : (Instr.checkKey ents.isEmpty 10000 kt u).run P c.w = .ok () c.w := hck
          simp only [Sem.run_bind, hck', Result.andThen_ok]
          split at hh
          · rename_i av n hf
            injection hh with hh
            obtain ⟨q, hq, hfd⟩ := findKey_ok (w := c.w) hok hk he2 hf
            obtain ⟨j, en, rfl, _, hv, _⟩ := hfd
            simp only [Result.andThen_ok, hq, Sem.run_pure, Sem.run_bind]
            cases ok
            · exact ⟨_, rfl, by subst hh; simpa using hv⟩
            · exact ⟨_, rfl, by subst hh; simp only [if_true, VR, VRL]; exact ⟨_, rfl, _, _, rfl, hv, _, _, rfl, rfl, rfl⟩⟩
          · rename_i hf
            injection hh with hh
            obtain ⟨q, hq, hfd⟩ := findKey_ok (w := c.w) hok hk he2 hf
            have hq' : q = none := hfd
            subst hq'
            simp only [Result.andThen_ok, hq, hzr, Sem.run_bind, Sem.run_pure]
            cases ok
            · exact ⟨_, rfl, by subst hh; simpa using absC_ok c zval⟩
            · exact ⟨_, rfl, by subst hh; simp only [if_true, VR, VRL]; exact ⟨_, rfl, _, _, rfl, absC_ok c zval, _, _, rfl, rfl, rfl⟩⟩
          · cases hh
        simp only [Instr.lookup]
        rcases mapIn_ok hr hx hm with ⟨rfl, rfl⟩ | ⟨b, clock, ents, rfl, _, rfl, h1, h2⟩
        · obtain ⟨z, hz1, hz2⟩ := cont #[] (by simp [ER])
          refine ⟨z, ?_, hz2⟩
          rw [← hz1]
          simp only [Sem.run_bind, r_under ht, Result.andThen_ok, Sem.run_pure]
          rfl
        · obtain ⟨z, hz1, hz2⟩ := cont ents h2
          refine ⟨z, ?_, hz2⟩
          rw [← hz1]
          simp only [Sem.run_bind, r_under ht, Result.andThen_ok, Sem.run_pure, r_getObj_map h1]
          rfl
      · cases hh
    · cases hh
end
end Go.Vk
set_option linter.unusedSimpArgs false
set_option linter.unusedVariables false
namespace Go.Vk
section
variable {P : Program} {c : Cx} {h : Hp} {id : Nat}

/-! ### parts laid into cells -/
theorem foldSet (off : Nat) : ∀ (vs : List Value) (k : Nat) (cells : Array Value), off + k + vs.length ≤ cells.size →
    ((vs.zipIdx k).foldl (fun cs (p : Value × Nat) => cs.setIfInBounds (off + p.2) p.1) cells).toList = cells.toList.take (off + k) ++ vs ++ cells.toList.drop (off + k + vs.length)
  | [], k, cells, hl => by simp
  | v :: vs, k, cells, hl => by
    simp only [List.length_cons] at hl
    simp only [List.zipIdx_cons, List.foldl_cons]
    rw [foldSet off vs (k + 1) (cells.setIfInBounds (off + k) v) (by simp; omega)]
    have h1 : (cells.setIfInBounds (off + k) v).toList = cells.toList.set (off + k) v := by simp
    rw [h1]
    have h2 : (cells.toList.set (off + k) v).take (off + (k + 1)) = cells.toList.take (off + k) ++ [v] := by
      rw [show off + (k + 1) = (off + k) + 1 by omega, List.take_succ_eq_append_getElem (by simp; omega)]
      simp only [List.getElem_set_self]
      congr 1
      refine List.ext_getElem? fun i => ?_
      by_cases hi : i < off + k
      · rw [List.getElem?_take_of_lt hi, List.getElem?_take_of_lt hi, List.getElem?_set_ne (by omega)]
      · rw [List.getElem?_eq_none (by simp; omega), List.getElem?_eq_none (by simp; omega)]
    have h3 : (cells.toList.set (off + k) v).drop (off + (k + 1) + vs.length) = cells.toList.drop (off + (k + 1) + vs.length) := by
      rw [List.drop_set_of_lt (by omega)]
    rw [h2, h3]
    simp only [List.length_cons, List.append_assoc, List.singleton_append]
    rw [show off + (k + 1) + vs.length = off + k + (vs.length + 1) by omega]

def PartsR (c : Cx) : List (Nat × AV) → List (Nat × Value) → Prop
  | [], ps => ps = []
  | (i, x) :: r, ps => ∃ v ps', ps = (i, v) :: ps' ∧ VR c x v ∧ PartsR c r ps'

theorem fill_ok {place : Nat → Option (Nat × Nat)} : ∀ {ps : List (Nat × AV)} {qs : List (Nat × Value)} {xs ys : List AV} {cells : Array Value}, PartsR c ps qs → VRL c xs cells.toList → fillA place xs ps = some ys →
    ∃ cells', Instr.fill place cells qs = some cells' ∧ VRL c ys cells'.toList
  | [], qs, xs, ys, cells, hp, hx, hf => by
    simp only [PartsR] at hp; subst hp
    simp only [fillA, Option.some.injEq] at hf; subst hf
    exact ⟨cells, by simp [Instr.fill], hx⟩
  | (i, x) :: ps, qs, xs, ys, cells, hp, hx, hf => by
    simp only [PartsR] at hp
    obtain ⟨v, qs', rfl, hv, hps⟩ := hp
    simp only [fillA] at hf
    split at hf
    · cases hf
    · rename_i off size hpl
      have hu : x = .undef → False := by rintro rfl; simp at hf
      have hf' : (if x.cells.length = size ∧ off + size ≤ xs.length then fillA place (xs.take off ++ x.cells ++ xs.drop (off + size)) ps else none) = some ys := by
        split at hf
        · cases hf
        · cases hf
        · exact hf
      split at hf'
      · rename_i hc
        have hvc := hv.cells hu
        have hlen := hvc.length
        have hxl := hx.length
        have hvs : v.cells.size = size := by rw [← hc.1, ← hlen]; simp
        have hfit : off + 0 + v.cells.toList.length ≤ cells.size := by
          have : cells.toList.length = cells.size := by simp
          simp only [Array.length_toList]; omega
        have hset := foldSet off v.cells.toList 0 cells hfit
        obtain ⟨cells', h1, h2⟩ := fill_ok (cells := (v.cells.toList.zipIdx 0).foldl (fun cs (p : Value × Nat) => cs.setIfInBounds (off + p.2) p.1) cells) hps (by
          rw [hset]
          simp only [Nat.add_zero]
          have : off + v.cells.toList.length = off + size := by simp [hvs]
          rw [this]
          exact (hx.take.append hvc).append hx.drop) hf'
        refine ⟨cells', ?_, h2⟩
        simp only [Instr.fill, hpl]
        rw [if_neg (by simp only [hvs, ne_eq, not_true_eq_false, false_or, Nat.not_lt, Bool.not_eq_true, decide_eq_false_iff_not, Bool.or_eq_true, decide_eq_true_eq]; have : cells.toList.length = cells.size := by simp
                       omega)]
        rw [← h1]
        congr 1
        rw [← Array.foldl_toList, Array.toList_zipIdx]
      · cases hf'

theorem repeat_get (z : List AV) (hz : 0 < z.length) : ∀ (n i : Nat), i < n * z.length → (repeatL z n)[i]? = z[i % z.length]?
  | 0, i, h => by omega
  | n + 1, i, h => by
    simp only [repeatL]
    by_cases hi : i < z.length
    · rw [List.getElem?_append_left hi, Nat.mod_eq_of_lt hi]
    · have h' : i - z.length < n * z.length := by have := Nat.succ_mul n z.length; simp only [Nat.succ_eq_add_one] at this; omega
      rw [List.getElem?_append_right (by omega), repeat_get z hz n (i - z.length) h']
      congr 1
      exact (Nat.mod_eq_sub_mod (by omega)).symm
theorem repeat_length (z : List AV) : ∀ n, (repeatL z n).length = n * z.length
  | 0 => by simp [repeatL]
  | n + 1 => by simp [repeatL, repeat_length z n, Nat.add_mul]; omega

theorem zeros_ok {z : List AV} {zv : Array Value} (hz : VRL c z zv.toList) (hpos : 0 < z.length) (n : Nat) : VRL c (repeatL z n) ((Array.range (n * z.length)).map (fun i => zv[i % zv.size]!)).toList := by
  have hl := hz.length
  have hs : zv.size = z.length := by rw [← hl]; simp
  refine VRL.of_get (by simp [repeat_length]) (fun i x hx => ?_)
  have hi : i < n * z.length := by
    have := (List.getElem?_eq_some_iff.1 hx).1
    rwa [repeat_length] at this
  rw [repeat_get z hpos n i hi] at hx
  obtain ⟨v, hv, hr⟩ := hz.get hx
  refine ⟨v, ?_, hr⟩
  simp only [Array.toList_map, List.getElem?_map]
  rw [show (Array.range (n * z.length)).toList[i]? = some i by simp [hi]]
  simp only [Option.map_some]
  have hlt : i % zv.size < zv.size := by rw [hs]; exact Nat.mod_lt _ hpos
  have hv' : zv[i % zv.size]? = some v := by rw [hs]; simpa using hv
  rw [getElem!_pos zv _ hlt]
  rw [Array.getElem?_eq_getElem hlt] at hv'
  exact hv'

theorem r_mapM_places {w : World} : ∀ {fs : List Field} {ps : List (Nat × Nat)}, fs.mapM (fun f => match P.info? f.type with | some i => some (f.offset, i.size) | none => none) = some ps →
    (fs.mapM (fun f => do pure (f.offset, ← sizeOf f.type) : Field → Sem (Nat × Nat))).run P w = .ok ps w
  | [], ps, h => by simp at h; subst h; simp
  | f :: fs, ps, h => by
    simp only [List.mapM_cons, Option.bind_eq_bind, Option.bind_eq_some_iff] at h
    obtain ⟨p, hp, qs, hq, h⟩ := h
    have ih := r_mapM_places (w := w) hq
    split at hp
    · rename_i i hi
      injection hp with hp; subst hp
      simp only [Option.pure_def, Option.some.injEq] at h; subst h
      simp only [List.mapM_cons, Sem.run_bind, r_size hi, Result.andThen_ok, Sem.run_pure, ih]
    · cases hp

theorem build_ok {t : TypeId} {ps : List (Nat × AV)} {qs : List (Nat × Value)} {r : AV} (hp : PartsR c ps qs) (hh : aBuild P t ps = some r) :
    ∃ z, (Instr.build t qs.toArray).run P c.w = .ok z c.w ∧ VR c r z := by
  unfold aBuild at hh
  split at hh
  · rename_i pl z hpl hz
    simp only [Option.map_eq_some_iff] at hh
    obtain ⟨ys, hys, rfl⟩ := hh
    obtain ⟨zv, rfl, hzr⟩ := r_zero (w := c.w) hz
    unfold placesT at hpl
    split at hpl
    · rename_i fs hfs
      obtain ⟨cells', h1, h2⟩ := fill_ok hp (absC_cells c zv) hys
      have hm := r_mapM_places (P := P) (w := c.w) hpl
      refine ⟨.agg cells', ?_, by simp only [VR]; exact ⟨_, rfl, h2⟩⟩
      have hmA : (fs.mapM (fun f => do pure (f.offset, ← sizeOf f.type) : Field → Sem (Nat × Nat))).run P c.w = .ok pl.toArray c.w := by
        rw [Array.mapM_eq_mapM_toList]
        simp only [Sem.run_map, hm, Result.andThen_ok]
      simp only [Instr.build, Sem.run_bind, hzr, Result.andThen_ok, r_under hfs, hmA]
      have : (fun (i : Nat) => pl.toArray[i]?) = (fun i => pl[i]?) := by funext i; simp
      simp only [this, h1, Sem.run_pure]
    · cases hpl
  · cases hh

theorem elemT_some {t e : TypeId} (h : elemT P t = some e) : P.underlying t = some (.slice e) := by
  unfold elemT at h
  split at h
  · rename_i e' h0; injection h with h; subst h; exact h0
  · cases h

theorem buildSlice_good {t : TypeId} {n : Nat} {ps : List (Nat × AV)} {qs : List (Nat × Value)} {r : AV × Option Blk} (hr : Rel c h) (hd : ¬ c.D id) (hid : id < h.nx) (hp : PartsR c ps qs)
    (hh : aBuildSlice P t id n ps = some r) : Good P c h id (Instr.buildSlice t n qs.toArray) r := by
  unfold aBuildSlice at hh
  split at hh
  · cases hh
  · rename_i e he
    have ht := elemT_some he
    split at hh
    · rename_i i z hi hz
      split at hh
      · rename_i hc
        obtain ⟨hbig, hpos, hzl⟩ := hc
        split at hh
        · rename_i cells hf
          injection hh with hh; subst hh
          obtain ⟨zv, rfl, hzr⟩ := r_zero (w := c.w) hz
          have hzc := absC_cells c zv
          have hrest : ∀ cs0 : Array Value, VRL c (repeatL (absC zv).cells n) ((Array.range (n * i.size)).map (cs0[· % cs0.size]!)).toList →
              ∃ cells' : Array Value, Instr.fill (fun j => some (j * i.size, i.size)) ((Array.range (n * i.size)).map (cs0[· % cs0.size]!)) qs = some cells' ∧ VRL c cells cells'.toList :=
            fun cs0 hc0 => fill_ok hp hc0 hf
          have hnb : ¬ n * i.size > 2 ^ 24 := by simp; omega
          have hrun : ∃ cells' : Array Value, VRL c cells cells'.toList ∧ (Instr.buildSlice t n qs.toArray).run P c.w = .ok (.slice (some ⟨c.w.heap.size, 0, none⟩) n n) (c.w.alloc (.cells cells' e)) := by
            by_cases h0 : n * i.size = 0
            · have hn : n = 0 := by rcases Nat.mul_eq_zero.1 h0 with h1 | h1 <;> omega
              obtain ⟨cells', h1, h2⟩ := hrest #[] (by subst hn; simp [repeatL, VRL])
              refine ⟨cells', h2, ?_⟩
              simp only [Instr.buildSlice, Sem.run_bind, r_under ht, Result.andThen_ok, r_size hi, if_neg hnb, Sem.run_pure, if_pos h0, h1, r_newRow]
            · obtain ⟨cells', h1, h2⟩ := hrest zv.cells (by have := zeros_ok hzc (by omega) n; rw [hzl] at this; exact this)
              refine ⟨cells', h2, ?_⟩
              simp only [Instr.buildSlice, Sem.run_bind, r_under ht, Result.andThen_ok, r_size hi, if_neg hnb, Sem.run_pure, if_neg h0, hzr, h1, r_newRow]
          obtain ⟨cells', h2, hrun⟩ := hrun
          refine Good.row (e := e) (vs := cells'.toList) (x := .slice (some ⟨c.w.heap.size, 0, none⟩) n n) hr hd hid h2 ?_ (fun hle => ?_)
          · simpa using hrun
          · simp only [VR, put_rho, put_w]
            refine ⟨put_d _, n, rfl, Nat.le_refl _, Nat.le_refl _, fun _ => rfl, cells'.toList.toArray, e, (0, 0), alloc_new _ _, ?_⟩
            have hl := h2.length
            have : cells.length = n * i.size := by
              have hfl : ∀ {place : Nat → Option (Nat × Nat)} {ps : List (Nat × AV)} {xs ys : List AV}, fillA place xs ps = some ys → ys.length = xs.length := by
                intro place ps
                induction ps with
                | nil => intro xs ys hf; simp only [fillA, Option.some.injEq] at hf; subst hf; rfl
                | cons p ps ih =>
                  intro xs ys hf
                  obtain ⟨j, x⟩ := p
                  simp only [fillA] at hf
                  split at hf
                  · cases hf
                  · split at hf
                    · cases hf
                    · cases hf
                    · split at hf
                      · rename_i hcc
                        have := ih hf
                        rw [this]; simp; omega
                      · cases hf
              rw [hfl hf, repeat_length, hzl]
            simp only [Nat.zero_add]
            simp at hl ⊢
            omega
        · cases hh
      · cases hh
    · cases hh

theorem makeSlice_good {t : TypeId} {x y : AV} {v u : Value} {r : AV × Option Blk} (hr : Rel c h) (hd : ¬ c.D id) (hid : id < h.nx) (hx : VR c x v) (hy : VR c y u)
    (hh : aMakeSlice P t id x y = some r) : Good P c h id (Instr.makeSlice t v u) r := by
  unfold aMakeSlice at hh
  split at hh
  · rename_i k len l cap
    simp only [VR] at hx hy; subst hx hy
    split at hh
    · cases hh
    · rename_i e he
      have ht := elemT_some he
      split at hh
      · rename_i i z hi hz
        split at hh
        · rename_i hc
          obtain ⟨h0, h1, h2, h3, hpos, hzl⟩ := hc
          injection hh with hh; subst hh
          unfold most at h2
          obtain ⟨zv, rfl, hzr⟩ := r_zero (w := c.w) hz
          have hzc := absC_cells c zv
          have hw1 : IntKind.i64.wrap len = len := IntWalk.i64_in _ (by omega)
          have hw2 : IntKind.i64.wrap cap = cap := IntWalk.i64_in _ (by omega)
          have hlc : len.toNat ≤ cap.toNat := by omega
          have hrun : ∃ cells' : Array Value, VRL c (repeatL (absC zv).cells cap.toNat) cells'.toList ∧ (Instr.makeSlice t (.int k len) (.int l cap)).run P c.w = .ok (.slice (some ⟨c.w.heap.size, 0, none⟩) len.toNat cap.toNat) (c.w.alloc (.cells cells' e)) := by
            have ht1 : ¬ ((decide (cap < 0) || decide ((i.bytes : Int) * cap > 2 ^ 48) || decide (len < 0) || decide (len > cap)) = true) := by
              simp; omega
            by_cases hn : cap.toNat * i.size = 0
            · have hn0 : cap.toNat = 0 := by rcases Nat.mul_eq_zero.1 hn with h4 | h4 <;> omega
              refine ⟨(Array.range (cap.toNat * i.size)).map ((#[] : Array Value)[· % 0]!), by rw [hn0]; simp [repeatL, VRL], ?_⟩
              simp only [Instr.makeSlice, Sem.run_bind, r_under ht, Result.andThen_ok, asInt, asIntOf, Sem.run_pure, r_info hi, hw1, hw2]
              rw [if_neg (by simpa using ht1)]
              simp only [Sem.run_bind, run_askRoom, Result.andThen_ok, r_size hi, if_pos hn, Sem.run_pure, r_newRow]
              rfl
            · refine ⟨(Array.range (cap.toNat * i.size)).map (fun j => zv.cells[j % zv.cells.size]!), by have := zeros_ok hzc (by omega) cap.toNat; rw [hzl] at this; exact this, ?_⟩
              simp only [Instr.makeSlice, Sem.run_bind, r_under ht, Result.andThen_ok, asInt, asIntOf, Sem.run_pure, r_info hi, hw1, hw2]
              rw [if_neg (by simpa using ht1)]
              simp only [Sem.run_bind, run_askRoom, Result.andThen_ok, r_size hi, if_neg hn, hzr, Sem.run_pure, r_newRow]
          obtain ⟨cells', h5, hrun⟩ := hrun
          refine Good.row (e := e) (vs := cells'.toList) (x := .slice (some ⟨c.w.heap.size, 0, none⟩) len.toNat cap.toNat) hr hd hid h5 (by simpa using hrun) (fun hle => ?_)
          simp only [VR, put_rho, put_w]
          refine ⟨put_d _, cap.toNat, rfl, hlc, Nat.le_refl _, fun _ => rfl, cells'.toList.toArray, e, (0, 0), alloc_new _ _, ?_⟩
          have hl := h5.length
          rw [repeat_length, hzl] at hl
          simp at hl ⊢
          omega
        · cases hh
      · cases hh
  · cases hh
end
end Go.Vk
set_option linter.unusedSimpArgs false
set_option linter.unusedVariables false
namespace Go.Vk
section
variable {P : Program} {c : Cx} {h : Hp} {id : Nat}

/-- An operation's outcome: a value. -/
def GoodN (P : Program) (c : Cx) (h : Hp) (id : Nat) (S : Sem Next) (r : AV × Option Blk) : Prop :=
  ∃ x c', S.run P c.w = .ok (.value x) c'.w ∧ Rel c' (laid h id r.2) ∧ Step c h c' (laid h id r.2) ∧ VR c' r.1 x ∧ ∀ b, c'.D b → c.D b ∨ b = id

theorem Good.toN {S : Sem Value} {r : AV × Option Blk} (hg : Good P c h id S r) : GoodN P c h id (do pure (.value (← S)) : Sem Next) r := by
  obtain ⟨x, c', h1, h2, h3, h4, h5⟩ := hg
  exact ⟨x, c', by simp only [Sem.run_bind, h1, Result.andThen_ok, Sem.run_pure], h2, h3, h4, h5⟩
theorem goodN_same {S : Sem Value} {v : AV} (hr : Rel c h) (hx : ∃ z, S.run P c.w = .ok z c.w ∧ VR c v z) : GoodN P c h id (do pure (.value (← S)) : Sem Next) (v, none) := by
  obtain ⟨z, h1, h2⟩ := hx
  exact Good.toN (Good.same hr h1 h2)
theorem goodN_pure {x : Value} {v : AV} (hr : Rel c h) (hx : VR c v x) : GoodN P c h id (pure (.value x) : Sem Next) (v, none) :=
  ⟨x, c, by simp, hr, Step.refl c h, hx, fun _ hb => .inl hb⟩

theorem partsR_of {ev : Operand → AV} {ρ : Operand → Value} (hev : ∀ x, VR c (ev x) (ρ x)) : ∀ ps : List (Nat × Operand), PartsR c (ps.map fun (i, x) => (i, ev x)) (ps.map fun (i, x) => (i, ρ x))
  | [] => rfl
  | (i, x) :: ps => ⟨ρ x, _, rfl, hev x, partsR_of hev ps⟩
theorem vrl_map {ev : Operand → AV} {ρ : Operand → Value} (hev : ∀ x, VR c (ev x) (ρ x)) : ∀ xs : List Operand, VRL c (xs.map ev) (xs.map ρ)
  | [] => rfl
  | x :: xs => by simp only [List.map_cons, VRL]; exact ⟨_, _, rfl, hev x, vrl_map hev xs⟩
theorem optR_map {ev : Operand → AV} {ρ : Operand → Value} (hev : ∀ x, VR c (ev x) (ρ x)) (x : Option Operand) : OptR c (x.map ev) (x.map ρ) := by
  cases x with
  | none => trivial
  | some x => exact hev x

theorem nilCheck_good {o : Oper} {ρ : Operand → Value} {x : Operand} {v : AV} {r : AV × Option Blk} (ho : o.op = .nilCheck x) (hr : Rel c h) (hv : VR c v (ρ x))
    (hh : (if nilOk v then some (v, none) else none) = some r) : GoodN P c h id (execOp ρ o) r := by
  unfold execOp
  rw [ho]
  simp only
  have base : (∀ w : World, (match ρ x with
    | .pointer none | .nilIface | .nilFunc => runtimePanic .nilDeref
    | .func (.method name) first captured =>
      match (first[0]? : Option Value) with
      | some .nilIface => runtimePanic .nilDeref
      | some (.iface t w) => do
        if (← nilAhead ((← program).types.size + Made.depth) t w name) != some false then
          unsupported (.noEntry "op/nilCheck.the method's receiver behind this interface value is a nil pointer, or cannot be seen to be none, and the arguments act or may panic (ledger 612)")
        pure (.value (.func (.method name) first captured))
      | _ => pure (.value (.func (.method name) first captured))
    | x => pure (.value x) : Sem Next).run P w = .ok (.value (ρ x)) w) ∧ r = (v, none) := by
    split at hh <;> try cases hh
    rename_i hok
    refine ⟨fun w => ?_, rfl⟩
    cases v <;> simp only [nilOk, Bool.false_eq_true] at hok
    case bool => simp only [VR] at hv; rw [hv]; rfl
    case int => simp only [VR] at hv; rw [hv]; rfl
    case str => simp only [VR] at hv; obtain ⟨s, e, _⟩ := hv; rw [e]; rfl
    case ptr => simp only [VR] at hv; rw [hv.2]; rfl
    case nils => simp only [VR] at hv; rw [hv]; rfl
    case slice => simp only [VR] at hv; obtain ⟨_, m, e, _⟩ := hv; rw [e]; rfl
    case empty => simp only [VR] at hv; obtain ⟨_, m, e⟩ := hv; rw [e]; rfl
    case nilm => simp only [VR] at hv; rw [hv]; rfl
    case iface => simp only [VR] at hv; obtain ⟨_, e, _⟩ := hv; rw [e]; rfl
    case func => simp only [VR] at hv; obtain ⟨_, e, _⟩ := hv; rw [e]; rfl
    case map => simp only [VR] at hv; rw [hv.2]; rfl
    case agg => simp only [VR] at hv; obtain ⟨_, e, _⟩ := hv; rw [e]; rfl
    case tup => simp only [VR] at hv; obtain ⟨_, e, _⟩ := hv; rw [e]; rfl
    case opq => obtain ⟨a, e⟩ := pointer_of hv; rw [e]; rfl
  obtain ⟨h1, rfl⟩ := base
  exact ⟨ρ x, c, h1 c.w, hr, Step.refl c h, hv, fun _ hb => .inl hb⟩

theorem map_pair_some {α β : Type} {x : Option α} {r : α × Option β} (h : x.map (·, (none : Option β)) = some r) : ∃ v, x = some v ∧ r = (v, none) := by
  cases x with
  | none => cases h
  | some v => simp only [Option.map_some, Option.some.injEq] at h; exact ⟨v, rfl, h.symm⟩

theorem toArray_map {α β : Type} (f : α → β) (xs : Array α) : (xs.toList.map f).toArray = xs.map f := by
  apply Array.ext'; simp

theorem aPure_ok {o : Oper} {ev : Operand → AV} {ρ : Operand → Value} {r : AV × Option Blk} (hr : Rel c h) (hd : ¬ c.D id) (hid : id < h.nx) (hev : ∀ x, VR c (ev x) (ρ x)) (hh : aPure P ev id h o.op = some r) :
    GoodN P c h id (execOp ρ o) r := by
  generalize hop : o.op = op at hh
  cases op <;> simp only [aPure] at hh <;> try cases hh
  case move x => unfold execOp; rw [hop]; exact goodN_pure hr (hev x)
  case assign x => unfold execOp; rw [hop]; exact goodN_pure hr (hev x)
  case pick cc a b =>
    unfold execOp; rw [hop]; simp only
    have h1 := hev cc
    split at hh <;> try cases hh
    · rename_i e; rw [e] at h1; simp only [VR] at h1
      exact ⟨ρ a, c, by simp [h1, asBool], hr, Step.refl c h, hev a, fun _ hb => .inl hb⟩
    · rename_i e; rw [e] at h1; simp only [VR] at h1
      exact ⟨ρ b, c, by simp [h1, asBool], hr, Step.refl c h, hev b, fun _ hb => .inl hb⟩
  case alloc t =>
    unfold execOp; rw [hop]; simp only
    split at hh <;> try cases hh
    rename_i z hz
    exact Good.toN (alloc_good hr hd hid hz)
  case box t x =>
    unfold execOp; rw [hop]; simp only
    have h1 := hev x
    split at hh <;> try cases hh
    rename_i h2 h3
    exact Good.toN (box_good hr hd hid h1 (fun e => h2 e))
  case build t ps =>
    unfold execOp; rw [hop]; simp only
    obtain ⟨v, hv, rfl⟩ := map_pair_some hh
    refine goodN_same hr ?_
    have := build_ok (P := P) (partsR_of hev ps.toList) hv
    rw [toArray_map] at this
    exact this
  case buildSlice t n ps =>
    unfold execOp; rw [hop]; simp only
    have := buildSlice_good hr hd hid (partsR_of hev ps.toList) hh
    refine Good.toN ?_
    rw [toArray_map] at this
    exact this
  case load t a =>
    unfold execOp; rw [hop]; simp only
    have h1 := hev a
    split at hh <;> try cases hh
    rename_i b off e
    rw [e] at h1
    simp only [VR] at h1
    split at hh <;> try cases hh
    rename_i ht
    split at hh
    · rename_i cs hg
      obtain ⟨v, hv, rfl⟩ := map_pair_some hh
      refine goodN_same hr ?_
      obtain ⟨z, hz, hzr⟩ := loadVar_ok hr ht hg hv
      exact ⟨z, by simp [Instr.loadAt, h1.2, Instr.sureAddr, hz], hzr⟩
    · split at hh <;> try cases hh
      rename_i cs hg
      obtain ⟨v, hv, rfl⟩ := map_pair_some hh
      refine goodN_same hr ?_
      obtain ⟨z, hz, hzr⟩ := loadVarT_ok hr ht hg hv
      exact ⟨z, by simp [Instr.loadAt, h1.2, Instr.sureAddr, hz], hzr⟩
  case nilCheck x => exact nilCheck_good hop hr (hev x) hh
  case binOp op t x y yt =>
    unfold execOp; rw [hop]; simp only
    obtain ⟨v, hv, rfl⟩ := map_pair_some hh
    exact goodN_same hr (aBin_ok rfl (hev x) (hev y) hv)
  case unOp op t x =>
    unfold execOp; rw [hop]; simp only
    obtain ⟨v, hv, rfl⟩ := map_pair_some hh
    exact goodN_same hr (aUn_ok (hev x) hv)
  case convert s d x =>
    unfold execOp; rw [hop]; simp only
    split at hh
    · rename_i l hl
      split at hh <;> try cases hh
      exact Good.toN (toBytes_good hr hd hid (hev x) hl)
    · obtain ⟨v, hv, rfl⟩ := map_pair_some hh
      exact goodN_same hr (aConv_ok hr (hev x) hv)
  case makeInterface t x =>
    unfold execOp; rw [hop]; simp only
    have h1 := hev x
    split at hh <;> try cases hh
    rename_i hc
    refine goodN_same hr ⟨.iface t (ρ x), ?_, by simp only [VR]; exact ⟨_, rfl, h1⟩⟩
    unfold concreteT at hc
    split at hc <;> try cases hc
    rename_i d h2 h3
    simp only [Instr.makeInterface, Sem.run_bind, r_under h3, Result.andThen_ok]
    cases d <;> first | rfl | (exact absurd rfl (h2 _))
  case makeFunc fn first caps =>
    unfold execOp; rw [hop]; simp only
    cases fn <;> simp only at hh <;> try cases hh
    rename_i f
    split at hh <;> try cases hh
    rename_i hf
    refine goodN_same hr ⟨.func (.func f) #[] (caps.map ρ), ?_, by simp only [VR]; exact ⟨_, rfl, by simpa using vrl_map hev caps.toList⟩⟩
    have : first = #[] := by simpa using hf
    simp [Instr.makeFunc, this]
  case makeMap t rs =>
    unfold execOp; rw [hop]; simp only
    cases rs <;> simp only at hh <;> try cases hh
    split at hh <;> try cases hh
    refine Good.toN (Good.newW _ (alloc_more _ (.map #[] 0)) hr hd hid (x := .map (some c.w.heap.size)) (by simp [Instr.makeMap]) (fun hle => ?_) (fun hle => ?_))
    · simp only [BR, put_rho, put_w]; exact ⟨trivial, #[], alloc_new _ _, rfl⟩
    · simp [VR, put_rho, put_d]
  case makeSlice t l cp =>
    unfold execOp; rw [hop]; simp only
    exact Good.toN (makeSlice_good hr hd hid (hev l) (hev cp) hh)
  case slice t x lo hi mx =>
    unfold execOp; rw [hop]; simp only
    split at hh
    · rename_i n e ht
      obtain ⟨v, hv, rfl⟩ := map_pair_some hh
      exact goodN_same hr (aSliceArr_ok hr ht (hev x) (optR_map hev lo) (optR_map hev hi) (optR_map hev mx) hv)
    · obtain ⟨v, hv, rfl⟩ := map_pair_some hh
      exact goodN_same hr (aSlice_ok rfl (hev x) (optR_map hev lo) (optR_map hev hi) (optR_map hev mx) hv)
  case fieldAddr t x i =>
    unfold execOp; rw [hop]; simp only
    have h1 := hev x
    split at hh <;> try cases hh
    rename_i b off o ft e1 e2
    split at hh <;> try cases hh
    rename_i hs
    rw [e1] at h1
    exact goodN_same hr (fieldAddr_ok h1 e2 hs)
  case field t x i =>
    unfold execOp; rw [hop]; simp only
    have h1 := hev x
    split at hh <;> try cases hh
    rename_i cs o ft e1 e2
    split at hh <;> try cases hh
    rename_i hs
    rw [e1] at h1
    obtain ⟨v, hv, rfl⟩ := map_pair_some hh
    exact goodN_same hr (field_ok h1 e2 hs hv)
  case indexAddr t x i =>
    unfold execOp; rw [hop]; simp only
    have h1 := hev x
    have h2 := hev i
    split at hh <;> try cases hh
    · rename_i e b off len cap ex sz k n ht e1 e2
      split at hh <;> try cases hh
      rename_i hs
      rw [e1] at h1; rw [e2] at h2
      exact goodN_same hr (indexAddr_slice_ok ht h1 h2 hs)
    · rename_i len e b off k n ht e1 e2
      split at hh <;> try cases hh
      rename_i hs
      rw [e1] at h1; rw [e2] at h2
      exact goodN_same hr (indexAddr_array_ok ht h1 h2 hs)
  case index t x i =>
    unfold execOp; rw [hop]; simp only
    have h1 := hev x
    have h2 := hev i
    split at hh <;> try cases hh
    · rename_i l k n ht e1 e2
      split at hh <;> try cases hh
      rename_i h0
      split at hh <;> try cases hh
      rename_i a ha
      rw [e1] at h1; rw [e2] at h2
      simp only [VR] at h1
      obtain ⟨s, hs, rfl⟩ := h1
      rw [hs]
      exact goodN_same hr (index_string_ok ht h2 h0 ha)
    · rename_i len e cs k n ht e1 e2
      split at hh <;> try cases hh
      rename_i hs
      rw [e1] at h1; rw [e2] at h2
      obtain ⟨v, hv, rfl⟩ := map_pair_some hh
      exact goodN_same hr (index_array_ok ht h1 h2 hs hv)
  case lookup t x k ok =>
    unfold execOp; rw [hop]; simp only
    obtain ⟨v, hv, rfl⟩ := map_pair_some hh
    exact goodN_same hr (lookup_ok hr (hev x) (hev k) hv)
  case extract x i =>
    unfold execOp; rw [hop]; simp only
    have h1 := hev x
    split at hh <;> try cases hh
    rename_i vs e1
    split at hh <;> try cases hh
    rename_i v hv
    rw [e1] at h1
    exact goodN_same hr (extract_ok h1 hv)
  case range t x =>
    unfold execOp; rw [hop]; simp only
    have h1 := hev x
    split at hh <;> try cases hh
    rename_i s ht e1
    rw [e1] at h1
    exact Good.toN (range_good hr hd hid ht h1)
  case call cl =>
    unfold execOp; rw [hop]; simp only
    obtain ⟨callee, args, argTypes⟩ := cl
    unfold aCall at hh
    split at hh <;> try cases hh
    · rename_i hcl
      simp only at hcl hh; subst hcl
      split at hh <;> try cases hh
      rename_i t x ht hx
      obtain ⟨v, hv, rfl⟩ := map_pair_some hh
      obtain ⟨z, hz, hzr⟩ := len_ok (P := P) (ty := o.type) hr (hev x) hv
      have ha : args = #[x] := by apply Array.ext'; simpa using hx
      have hat : argTypes = #[t] := by apply Array.ext'; simpa using ht
      subst ha hat
      refine ⟨z, c, ?_, hr, Step.refl c h, hzr, fun _ hb => .inl hb⟩
      simp only [resolve, Sem.run_bind, Sem.run_pure, Result.andThen_ok, invoke, builtin, List.map_toArray, List.map_cons, List.map_nil, hz]
    · rename_i hcl
      simp only at hcl hh; subst hcl
      split at hh <;> try cases hh
      rename_i x rr hx
      obtain ⟨v, hv, rfl⟩ := map_pair_some hh
      obtain ⟨z, hz, hzr⟩ := minA_ok (P := P) (w := c.w) (hev x) (vrl_map hev rr) hv
      have ha : args = (x :: rr).toArray := by apply Array.ext'; simpa using hx
      subst ha
      refine ⟨z, c, ?_, hr, Step.refl c h, hzr, fun _ hb => .inl hb⟩
      simp only [resolve, Sem.run_bind, Sem.run_pure, Result.andThen_ok, invoke, builtin, Builtin.min_, List.map_toArray, List.map_cons, hz]
    · rename_i hcl
      simp only at hcl hh; subst hcl
      split at hh <;> try cases hh
      rename_i x rr hx
      obtain ⟨v, hv, rfl⟩ := map_pair_some hh
      obtain ⟨z, hz, hzr⟩ := maxA_ok (P := P) (w := c.w) (hev x) (vrl_map hev rr) hv
      have ha : args = (x :: rr).toArray := by apply Array.ext'; simpa using hx
      subst ha
      refine ⟨z, c, ?_, hr, Step.refl c h, hzr, fun _ hb => .inl hb⟩
      simp only [resolve, Sem.run_bind, Sem.run_pure, Result.andThen_ok, invoke, builtin, Builtin.max_, List.map_toArray, List.map_cons, hz]
end
end Go.Vk
set_option linter.unusedSimpArgs false
set_option linter.unusedVariables false
namespace Go.Vk
section
variable {P : Program} {c : Cx} {h : Hp} {id : Nat}

/-- An outcome: a value, or nothing. -/
def GoodE (P : Program) (c : Cx) (h : Hp) (id : Nat) (S : Sem Next) (v : AV) (h1 : Hp) : Prop :=
  ∃ nx c', S.run P c.w = .ok nx c'.w ∧ ((∃ x, nx = .value x ∧ VR c' v x) ∨ (nx = .skip ∧ v = .tup [])) ∧ Rel c' h1 ∧ Step c h c' h1 ∧ ∀ b, c'.D b → c.D b ∨ b = id

theorem VR.mono_w {c : Cx} {w' : World} (hle : c.le { c with w := w' }) {x : AV} {v : Value} (h : VR c x v) : VR { c with w := w' } x v := VR.mono hle _ _ h

/-! ### store -/
theorem store_good {o : Oper} {t : TypeId} {b off : Nat} {x : AV} {av xv : Value} {h1 : Hp} (hr : Rel c h) (ha : VR c (.ptr b off) av) (hx : VR c x xv) (hu : x = .undef → False) (ht : hasT P t = true) (hl : x.cells.length = sizeT P t)
    (hp : putCells h b off x.cells = some h1 ∨ putT h b off x.cells = some h1) : GoodE P c h id (do Instr.storeAt t av xv; pure .skip : Sem Next) (.tup []) h1 := by
  simp only [VR] at ha
  obtain ⟨hd, rfl⟩ := ha
  have hc := hx.cells hu
  obtain ⟨w', h2, h3, h4, h5⟩ := hp.elim (putCells_run (P := P) hr hc) (putT_run (P := P) hr hc)
  refine ⟨.skip, { c with w := w' }, ?_, .inr ⟨rfl, rfl⟩, h3, h4, fun _ hb => .inl hb⟩
  have hsz : xv.cells.size = sizeT P t := by rw [← hl, ← hc.length]; simp
  simp only [Instr.storeAt, Instr.sureAddr, storeVar, Sem.run_bind, Sem.run_pure, Result.andThen_ok, r_size' ht, hsz, ne_eq, not_true_eq_false, if_false, h2]

/-! ### what is appended -/
theorem src_ok {t : TypeId} {sz n : Nat} {x : AV} {v : Value} {new : List AV} (hr : Rel c h) (ht : srcT P t = true) (hx : VR c x v) (hn : lenA x = some n) (hs : srcCells h sz n x = some new) (h1 : new.all AV.one = true) :
    ∃ news : List Value, VRL c new news ∧ Src P sz t v n news c.w := by
  have hk : (∃ e', P.underlying t = some (.slice e')) ∨ P.underlying t = some .string := by
    unfold srcT at ht
    split at ht
    · rename_i e he; exact .inl ⟨e, he⟩
    · rename_i he; exact .inr he
    · cases ht
  unfold srcCells at hs
  split at hs
  · rename_i l
    split at hs
    · rename_i h0; subst h0
      injection hs with hs
      simp only [lenA, Option.some.injEq] at hn
      simp only [VR] at hx
      obtain ⟨s, rfl, rfl⟩ := hx
      have hns : n = s.size := by rw [← hn, bytesOf_length]
      subst hns
      refine ⟨byteCells s, ?_, hk, fun _ => rfl, firstCells_string s c.w, firstCells_string s c.w.drew, by rw [byteCells_length, Nat.mul_one], fun u hu => by obtain ⟨_, _, rfl⟩ := List.mem_map.1 hu; rfl⟩
      rw [← hs, show (bytesOf s).take s.size = bytesOf s from List.take_of_length_le (by rw [bytesOf_length]; exact Nat.le_refl _)]
      refine VRL.of_get (by simp [byteCells_length, bytesOf_length]) (fun i y hy => ?_)
      simp only [bytesOf, List.map_map, List.getElem?_map, Option.map_eq_some_iff] at hy
      obtain ⟨b, hb, rfl⟩ := hy
      exact ⟨.int .u8 b.toNat, by simp [byteCells, hb], by simp [VR]⟩
    · cases hs
  · split at hs
    · rename_i h0; subst h0
      injection hs with hs; subst hs
      simp only [VR] at hx; subst hx
      exact ⟨[], by simp [VRL], hk, fun _ => rfl, run_firstCells_none c.w sz 0 0 0, run_firstCells_none c.w.drew sz 0 0 0, by simp, fun _ hu => by cases hu⟩
    · cases hs
  · split at hs
    · rename_i h0; subst h0
      injection hs with hs; subst hs
      simp only [VR] at hx; obtain ⟨a, m, rfl⟩ := hx
      exact ⟨[], by simp [VRL], hk, fun _ => rfl, run_firstCells_some c.w sz 0 a 0 m [] (by simp) (by simp), run_firstCells_some c.w.drew sz 0 a 0 m [] (by simp) (by simp), by simp, fun _ hu => by cases hu⟩
    · cases hs
  · rename_i b off len cap ex z
    split at hs
    · simp only [sliceCells] at hs
      split at hs
      · rename_i hz; subst hz
        simp only [lenA, Option.some.injEq] at hn; subst hn
        simp only [VR] at hx
        obtain ⟨hd, m, rfl, _⟩ := hx
        obtain ⟨vs, v1, v2, v3⟩ := cells_load hr hs
        have hc : ∀ j u, vs[j]? = some u → c.w.cell? ((⟨(c.rho b).1, (c.rho b).2 + off, none⟩ : Addr).add j) = some u := fun j u hu => by rw [add_plain]; exact v3 j u hu
        exact ⟨vs, v1, hk, fun _ => rfl, run_firstCells_some c.w z len _ len m vs v2 hc, run_firstCells_some c.w.drew z len _ len m vs v2 (by simpa using hc), v2, v1.ones h1⟩
      · cases hs
    · cases hs
  · cases hs

/-! ### append: there is room -/
theorem run_append_room {t tx ty e : TypeId} {i : TypeInfo} {w w' : World} {b off sLen sCap : Nat} {x : Value} {n : Nat} {news : List Value} (ht : P.underlying t = some (.slice e)) (hi : P.info? e = some i) (hs : Src P i.size tx x n news w)
    (hroom : sLen + n ≤ sCap) (hst : (storeCells ⟨b, off + sLen * i.size, none⟩ news).run P w = .ok () w') :
    (Builtin.append_ #[t, tx] ty #[.slice (some ⟨b, off, none⟩) sLen sCap, x]).run P w = .ok (.slice (some ⟨b, off, none⟩) (sLen + n) sCap) w' := by
  rcases hs.kind with ⟨e', hk⟩ | hk <;> simp [Builtin.append_, r_under ht, r_under hk, sizeOf, typeInfo, hi, hs.len, hroom, hs.cells, add_plain, hst]

theorem run_append_nil0 {t tx ty e : TypeId} {i : TypeInfo} {w : World} {x : Value} {a : Option Addr} {m : Nat} {news : List Value} (ht : P.underlying t = some (.slice e)) (hi : P.info? e = some i) (hs : Src P i.size tx x 0 news w) :
    (Builtin.append_ #[t, tx] ty #[.slice a 0 m, x]).run P w = .ok (.slice a 0 m) w := by
  have hnil : news = [] := List.eq_nil_of_length_eq_zero (by rw [hs.newsLen]; simp)
  subst hnil
  rcases hs.kind with ⟨e', hk⟩ | hk <;> cases a <;> simp [Builtin.append_, r_under ht, r_under hk, sizeOf, typeInfo, hi, hs.len, hs.cells, storeCells]

theorem run_append_len0 {t tx ty e : TypeId} {i : TypeInfo} {w : World} {x : Value} {a : Addr} {len m : Nat} {news : List Value} (ht : P.underlying t = some (.slice e)) (hi : P.info? e = some i) (hs : Src P i.size tx x 0 news w) (hl : len ≤ m) :
    (Builtin.append_ #[t, tx] ty #[.slice (some a) len m, x]).run P w = .ok (.slice (some a) len m) w := by
  have hnil : news = [] := List.eq_nil_of_length_eq_zero (by rw [hs.newsLen]; simp)
  subst hnil
  rcases hs.kind with ⟨e', hk⟩ | hk <;> simp [Builtin.append_, r_under ht, r_under hk, sizeOf, typeInfo, hi, hs.len, hs.cells, storeCells, hl]

/-! ### append: there is none -/
theorem fits_ok {need bytes old : Nat} (hf : fits need bytes = true) (ho : old < need) : ((need : Nat) : Int) ≤ 9223372036854775807 ∧ Builtin.nextslicecap need old * bytes ≤ 281474976710656 := by
  unfold fits at hf
  simp only [Bool.and_eq_true, Nat.ble_eq] at hf
  unfold most at hf
  refine ⟨by omega, Nat.le_trans (Nat.mul_le_mul_right _ (nextslicecap_le ho)) hf.1⟩

theorem fresh_some {h h1 : Hp} {id : Nat} {b : Blk} (hf : fresh h id b = some h1) : h1 = { h with m := h.m.set id b } := by
  unfold fresh at hf
  split at hf
  · injection hf with hf; exact hf.symm
  · cases hf

theorem grownCap_ge (w : World) (need old : Nat) (e : TypeId) : need ≤ grownCap w need old e := by
  unfold grownCap; simp [Question.cut]

theorem zeroCells_size (z : Array Value) (n : Nat) : (Builtin.zeroCells z n).size = n * z.size := by simp [Builtin.zeroCells]

/-- The new row, its first cells known. -/
theorem grow_step {e : TypeId} {cells : List AV} {vs : List Value} {rest : Array Value} (hr : Rel c h) (hd : ¬ c.D id) (hid : id < h.nx) (hv : VRL c cells vs) :
    let w' := c.w.drew.alloc (.cells (vs.toArray ++ rest) e)
    Rel (c.put w' id) { h with m := h.m.set id (.row cells false) } ∧ Step c h (c.put w' id) { h with m := h.m.set id (.row cells false) } := by
  intro w'
  have ho : OneMore c.w w' := (alloc_more c.w.drew _).drew
  have hle := Cx.le_put hr ho hd
  refine put_step hr ho _ hd hid ⟨vs.toArray ++ rest, e, (0, 0), ?_, fun i y hy => ?_, fun _ => .inr (Nat.le_refl _)⟩
  · simp only [put_rho, put_w]; exact alloc_new c.w.drew _
  · obtain ⟨u, hu, hur⟩ := hv.get hy
    refine ⟨u, ?_, VR.mono hle _ _ hur⟩
    simp only [put_rho, Nat.zero_add]
    have hlt : i < vs.length := (List.getElem?_eq_some_iff.1 hu).1
    rw [Array.getElem?_append_left (by simpa using hlt)]
    simpa using hu

/-- The same, its type told. -/
theorem grow_stepT {e : TypeId} {cells : List AV} {vs : List Value} {rest : Array Value} (hr : Rel c h) (hd : ¬ c.D id) (hid : id < h.nx) (hv : VRL c cells vs) :
    let w' := c.w.drew.alloc (.cells (vs.toArray ++ rest) e)
    Rel (c.put w' id) { h with m := h.m.set id (.trow e cells false false) } ∧ Step c h (c.put w' id) { h with m := h.m.set id (.trow e cells false false) } := by
  intro w'
  have ho : OneMore c.w w' := (alloc_more c.w.drew _).drew
  have hle := Cx.le_put hr ho hd
  refine put_step hr ho _ hd hid ⟨by simp only [put_rho], vs.toArray ++ rest, (0, 0), ?_, fun i y hy => ?_, fun _ => .inr (Nat.le_refl _), fun h => by cases h⟩
  · simp only [put_rho, put_w]; exact alloc_new c.w.drew _
  · obtain ⟨u, hu, hur⟩ := hv.get hy
    refine ⟨u, ?_, VR.mono hle _ _ hur⟩
    simp only [put_rho, Nat.zero_add]
    have hlt : i < vs.length := (List.getElem?_eq_some_iff.1 hu).1
    rw [Array.getElem?_append_left (by simpa using hlt)]
    simpa using hu

/-- A block dies. -/
theorem kill_step (hr : Rel c h) {b : Nat} (hb : c.D b) : Rel c { h with m := h.m.set b .dead } ∧ Step c h c { h with m := h.m.set b .dead } := by
  have hg : ∀ i, i ≠ b → (h.m.set b .dead).get i = h.m.get i := fun i hi => PT.get_set_ne _ _ hi
  have hs : (h.m.set b Blk.dead).get b = some .dead := PT.get_set_same _ _ _
  have hcase : ∀ i k, (h.m.set b .dead).get i = some k → k.live = true → h.m.get i = some k := fun i k hk hl => by
    by_cases e : i = b
    · subst e; rw [hs] at hk; injection hk with hk; subst hk; simp [Blk.live] at hl
    · rw [← hg i e]; exact hk
  refine ⟨⟨?_, hr.lt, ?_, ?_, hr.zone, ?_⟩, ⟨Cx.le.refl c, rfl, rfl, rfl, Nat.le_refl _, fun _ _ _ => rfl, ?_, Nat.le_refl _, fun _ hk => .inl hk⟩⟩
  · intro i k hk
    by_cases e : i = b
    · subst e; exact hb
    · exact hr.dom i k (by rw [← hg i e]; exact hk)
  · intro i k hk
    cases hl : k.live with
    | true => exact hr.blk i k (hcase i k hk hl)
    | false => cases k <;> simp [Blk.live] at hl; trivial
  · intro i j k k' hk hk' hne hl hw
    exact hr.inj i j k k' (hcase i k hk hl) (hcase j k' hk' (Blk.live_of_rw hw)) hne hl hw
  · intro i k hk hw
    exact hr.out i k (hcase i k hk (Blk.live_of_rw hw)) hw
  · intro i k hk hl
    exact .inl ⟨i, k, hcase i k hk hl, hl, fun hh => hh, rfl⟩

/-- A block's row goes over to another number: the old one dies. -/
theorem take_stepT (hr : Rel c h) {b off : Nat} {ob nb : Blk} {w' : World} (hb : h.m.get b = some ob) (how : ob.rw = true) (hnw : nb.rw = true) (hd : ¬ c.D id) (hid : id < h.nx) (hbut : ButBlock (c.rho b).1 c.w w')
    (hrooms : ∀ (cs : Array Value) (e : TypeId) (fr : Nat × Nat), c.w.heap[(c.rho b).1]? = some (.cells cs e fr) → ∃ (cs' : Array Value) (fr' : Nat × Nat), w'.heap[(c.rho b).1]? = some (.cells cs' e fr') ∧ cs'.size = cs.size)
    (hbr : ∀ c' : Cx, c.le c' → c'.w = w' → c'.rho id = ((c.rho b).1, (c.rho b).2 + off) → BR c' id nb) :
    let c' : Cx := { w := w', Z := c.Z, rho := fun i => if i = id then ((c.rho b).1, (c.rho b).2 + off) else c.rho i, D := fun i => i = id ∨ c.D i }
    c.le c' ∧ Rel c' { h with m := (h.m.set id nb).set b .dead } ∧ Step c h c' { h with m := (h.m.set id nb).set b .dead } := by
  intro c'
  have hdb : c.D b := hr.dom b _ hb
  have hbi : b ≠ id := fun e => hd (e ▸ hdb)
  have hzb : ¬ c.Z (c.rho b).1 := hr.out b _ hb how
  have hrho : ∀ i, i ≠ id → c'.rho i = c.rho i := fun i hi => by simp [c', hi]
  have hnew : c'.rho id = ((c.rho b).1, (c.rho b).2 + off) := by simp [c']
  have hle : c.le c' := ⟨fun i hi => ⟨.inr hi, hrho i (fun e => hd (e ▸ hi))⟩, fun k hk => ⟨hk, hbut.other k (fun e => hzb (e ▸ hk))⟩, fun k cs e fr hk => by
    by_cases e1 : k = (c.rho b).1
    · subst e1; exact hrooms cs e fr hk
    · exact ⟨cs, fr, by rw [show c'.w = w' from rfl, hbut.other k e1]; exact hk, rfl⟩⟩
  have hg : ∀ i, i ≠ b → i ≠ id → ((h.m.set id nb).set b .dead).get i = h.m.get i := fun i h1 h2 => by rw [PT.get_set_ne _ _ h1, PT.get_set_ne _ _ h2]
  have hgb : ((h.m.set id nb).set b Blk.dead).get b = some .dead := PT.get_set_same _ _ _
  have hgi : ((h.m.set id nb).set b Blk.dead).get id = some nb := by rw [PT.get_set_ne _ _ (Ne.symm hbi)]; exact PT.get_set_same _ _ _
  have hcase : ∀ i k, ((h.m.set id nb).set b .dead).get i = some k → k.live = true → (i = id ∧ k = nb) ∨ (i ≠ id ∧ i ≠ b ∧ h.m.get i = some k) := fun i k hk hl => by
    by_cases e : i = b
    · subst e; rw [hgb] at hk; injection hk with hk; subst hk; simp [Blk.live] at hl
    · by_cases e2 : i = id
      · subst e2; rw [hgi] at hk; injection hk with hk; exact .inl ⟨rfl, hk.symm⟩
      · exact .inr ⟨e2, e, by rw [← hg i e e2]; exact hk⟩
  have hsz : c'.w.heap.size = c.w.heap.size := hbut.size
  have hnb := hbr c' hle rfl hnew
  refine ⟨hle, ⟨?_, ?_, ?_, ?_, ?_, ?_⟩, ⟨hle, hbut.os, hbut.tape, hbut.output, by rw [hsz]; exact Nat.le_refl _, ?_, ?_, Nat.le_refl _, fun k hk => .inl hk⟩⟩
  · intro i k hk
    by_cases e1 : i = id
    · exact .inl e1
    · by_cases e2 : i = b
      · subst e2; exact .inr hdb
      · exact .inr (hr.dom i k (by rw [← hg i e2 e1]; exact hk))
  · rintro i (rfl | hi)
    · exact hid
    · exact hr.lt i hi
  · intro i k hk
    cases hl : k.live with
    | false => cases k <;> simp [Blk.live] at hl; trivial
    | true =>
      rcases hcase i k hk hl with ⟨rfl, rfl⟩ | ⟨e1, e2, hk'⟩
      · exact hnb
      · exact BR.mono hle (hr.dom i k hk') (hbut.other _ (hr.inj i b k _ hk' hb e2 hl how)) (hr.blk i k hk')
  · intro i j k k' hk hk' hne hl hw
    rcases hcase i k hk hl with ⟨rfl, rfl⟩ | ⟨e1, e2, hk1⟩ <;> rcases hcase j k' hk' (Blk.live_of_rw hw) with ⟨rfl, rfl⟩ | ⟨f1, f2, hk2⟩
    · exact absurd rfl hne
    · rw [hnew, hrho j f1]
      exact Ne.symm (hr.inj j b k' _ hk2 hb f2 (Blk.live_of_rw hw) how)
    · rw [hnew, hrho i e1]
      exact hr.inj i b k _ hk1 hb e2 hl how
    · rw [hrho i e1, hrho j f1]
      exact hr.inj i j k k' hk1 hk2 hne hl hw
  · intro k hk; rw [hsz]; exact hr.zone k hk
  · intro i k hk hw hz
    rcases hcase i k hk (Blk.live_of_rw hw) with ⟨rfl, rfl⟩ | ⟨e1, e2, hk1⟩
    · rw [hnew] at hz; exact hzb hz
    · rw [hrho i e1] at hz; exact hr.out i k hk1 hw hz
  · intro k hk hn
    exact hbut.other k (fun e1 => hn ⟨b, _, hb, how, e1.symm⟩)
  · intro i k hk hl
    rcases hcase i k hk hl with ⟨rfl, rfl⟩ | ⟨e1, e2, hk1⟩
    · exact .inl ⟨b, _, hb, Blk.live_of_rw how, fun _ => how, by rw [hnew]⟩
    · exact .inl ⟨i, k, hk1, hl, fun hh => hh, by rw [hrho i e1]⟩

/-- A block's row goes over to another number: the old one dies. -/
theorem take_step (hr : Rel c h) {b off : Nat} {all cells : List AV} {w' : World} (hb : h.m.get b = some (.row all false)) (hd : ¬ c.D id) (hid : id < h.nx) (hbut : ButBlock (c.rho b).1 c.w w')
    (hrooms : ∀ (cs : Array Value) (e : TypeId) (fr : Nat × Nat), c.w.heap[(c.rho b).1]? = some (.cells cs e fr) → ∃ (cs' : Array Value) (fr' : Nat × Nat), w'.heap[(c.rho b).1]? = some (.cells cs' e fr') ∧ cs'.size = cs.size)
    (hbr : ∀ c' : Cx, c.le c' → c'.w = w' → ∃ cs e fr, w'.heap[(c.rho b).1]? = some (.cells cs e fr) ∧ (∀ (i : Nat) (x : AV), cells[i]? = some x → ∃ v, cs[(c.rho b).2 + off + i]? = some v ∧ VR c' x v) ∧ (cs.size ≤ fr.1 ∨ fr.2 ≤ fr.1)) :
    let c' : Cx := { w := w', Z := c.Z, rho := fun i => if i = id then ((c.rho b).1, (c.rho b).2 + off) else c.rho i, D := fun i => i = id ∨ c.D i }
    c.le c' ∧ Rel c' { h with m := (h.m.set id (.row cells false)).set b .dead } ∧ Step c h c' { h with m := (h.m.set id (.row cells false)).set b .dead } :=
  take_stepT hr hb rfl rfl hd hid hbut hrooms (fun c' hle hw hnew => by
    obtain ⟨cs, e, fr, k1, k2, k3⟩ := hbr c' hle hw
    refine ⟨cs, e, fr, by rw [hnew, hw]; exact k1, fun j x hx => ?_, fun _ => k3⟩
    rw [hnew]; exact k2 j x hx)

/-- A step behind a step. -/
theorem GoodE.of_value {S : Sem Value} {v : AV} {h1 : Hp} {x : Value} {c' : Cx} (hs : S.run P c.w = .ok x c'.w) (hv : VR c' v x) (hr : Rel c' h1) (hst : Step c h c' h1) (hd : ∀ b, c'.D b → c.D b ∨ b = id) :
    GoodE P c h id (do pure (.value (← S)) : Sem Next) v h1 :=
  ⟨.value x, c', by simp only [Sem.run_bind, hs, Result.andThen_ok, Sem.run_pure], .inl ⟨x, rfl, hv⟩, hr, hst, hd⟩
end
end Go.Vk
