/- Part of a proof. The abstract machine: regions that draw their order: whatever the order. The abstract machine: regions. The abstract machine: whole bodies, calls. The abstract machine: more fuel, more calls; runs, told by what they end in. The abstract machine: opaque numbers opened for a run, and what a run made closed. The abstract machine: numbers, opened and closed. The abstract machine: calls that make nothing that is seen, told by their runs. Digits of a natural number: halves of words, the lowest first. -/
import Derived.Test.YtibgogaabdngjaaGreatDoorV02
import Derived.LoopN
set_option linter.unusedSimpArgs false
set_option linter.unusedVariables false
namespace Go.Vk
section
variable {P : Program} {call : FuncId → List AV → Hp → Option (AV × Hp)} {ops : Array Oper} {B : List Nat} {nt base : Nat}

/-- In whatever order: the end is this one. -/
def AG (P : Program) (call : FuncId → List AV → Hp → Option (AV × Hp)) (ops : Array Oper) (B : List Nat) (nt base : Nat) (F : AS → Prop) : Nat → Array Bool → AS → Prop
  | 0, listed, s => Region.ready .any ops listed = [] ∧ F s
  | f + 1, listed, s => (Region.ready .any ops listed = [] → F s) ∧ ∀ i ∈ Region.ready .any ops listed, ∃ s1, astep P call ops B nt base i s s1 ∧ AG P call ops B nt base F f (listed.setIfInBounds i true) s1

/-! ### what lies before what -/
/-- What is listed is listed with all that lies directly before it. -/
def Closed (ops : Array Oper) (listed : Array Bool) : Prop := ∀ (j : Nat) (o : Oper), ops[j]? = some o → listed.getD j false = true → ∀ e ∈ o.after, Region.binds .any e = true → listed.getD e.on false = true

theorem bits_fold (B : List Nat) (i : Nat) : ∀ (es : List Edge) (s : Nat), (es.foldl (fun s e => if binds e then s ||| 2 ^ e.on ||| B.getD e.on 0 else s) s).testBit i = true →
    s.testBit i = true ∨ ∃ e ∈ es, Region.binds .any e = true ∧ (e.on = i ∨ (B.getD e.on 0).testBit i = true)
  | [], s, h => .inl h
  | e :: es, s, h => by
    simp only [List.foldl_cons] at h
    rcases bits_fold B i es _ h with h1 | ⟨e', he', h1⟩
    · split at h1
      · rename_i hb
        simp only [Nat.testBit_or, Bool.or_eq_true] at h1
        rcases h1 with (h1 | h1) | h1
        · exact .inl h1
        · right
          refine ⟨e, List.mem_cons_self .., hb, .inl ?_⟩
          rw [Nat.testBit_two_pow] at h1
          exact of_decide_eq_true h1
        · exact .inr ⟨e, List.mem_cons_self .., hb, .inr h1⟩
      · exact .inl h1
    · exact .inr ⟨e', List.mem_cons_of_mem _ he', h1⟩

theorem bits_at (hB : bitsOk ops.toList B = true) {j : Nat} {o : Oper} (ho : ops[j]? = some o) : (∀ e ∈ o.after, Region.binds .any e = true → e.on < j) ∧ B.getD j 0 = directBits o B := by
  unfold bitsOk at hB
  rw [List.all_eq_true] at hB
  have hm : (o, j) ∈ ops.toList.zipIdx := by
    rw [List.mem_zipIdx_iff_getElem?]
    simpa using ho
  have := hB _ hm
  simp only [Bool.and_eq_true, List.all_eq_true, Bool.or_eq_true, Bool.not_eq_true'] at this
  refine ⟨fun e he hb => ?_, Nat.eq_of_beq_eq_true this.2⟩
  rcases this.1 e (by simpa using he) with h | h
  · rw [show binds e = Region.binds .any e from rfl, hb] at h; cases h
  · exact Nat.le_of_ble_eq_true h

/-- What lies before an operation whose direct forerunners are listed is listed. -/
theorem anc_listed (hB : bitsOk ops.toList B = true) {listed : Array Bool} (hc : Closed ops listed) (i : Nat) : ∀ (n j : Nat), j < n → ∀ o, ops[j]? = some o → (∀ e ∈ o.after, Region.binds .any e = true → listed.getD e.on false = true) → anc B i j = true → listed.getD i false = true := by
  intro n
  induction n with
  | zero => intro j hj; omega
  | succ n ih =>
    intro j hj o ho hall ha
    obtain ⟨hlt, hbits⟩ := bits_at hB ho
    unfold anc at ha
    rw [hbits] at ha
    unfold directBits at ha
    rcases bits_fold B i _ _ ha with h0 | ⟨e, he, hb, h0 | h0⟩
    · simp at h0
    · rw [← h0]; exact hall e (by simpa using he) hb
    · have he' : e ∈ o.after := by simpa using he
      have hl := hall e he' hb
      have hej := hlt e he' hb
      cases hoe : ops[e.on]? with
      | none =>
        exfalso
        have hjj := (Array.getElem?_eq_some_iff.1 ho).1
        rw [Array.getElem?_eq_none_iff] at hoe
        omega
      | some oe => exact ih e.on (by omega) oe hoe (fun e' he'' hb' => hc e.on oe hoe hl e' he'' hb') h0

theorem Closed.add {listed : Array Bool} (hc : Closed ops listed) {i : Nat} (hi : i ∈ Region.ready .any ops listed) : Closed ops (listed.setIfInBounds i true) := by
  obtain ⟨h0, oi, hoi, hall⟩ := mem_ready.1 hi
  intro j o ho hl e he hb
  by_cases hij : i = j
  · subst hij
    rw [hoi] at ho; injection ho with ho; subst ho
    exact getD_set_true (hall e he hb)
  · rw [getD_set_ne false hij] at hl
    exact getD_set_true (hc j o ho hl e he hb)

/-! ### one operation first -/
theorem AG_first (hB : bitsOk ops.toList B = true) {F : AS → Prop} {i : Nat} {oi : Oper} (hi : ops[i]? = some oi) : ∀ (f : Nat) (listed : Array Bool) (s s1 : AS), listed.size = ops.size → Closed ops listed →
    (∀ j oj, ops[j]? = some oj → j ≠ i → listed.getD j true = false → ¬ anc B i j = true → oi.apart ops oj = true ∧ isEff oj.op = false) →
    i ∈ Region.ready .any ops listed → astep P call ops B nt base i s s1 → AG P call ops B nt base F f (listed.setIfInBounds i true) s1 → AG P call ops B nt base F (f + 1) listed s := by
  intro f
  induction f with
  | zero =>
    intro listed s s1 hsz hc hfree hr hst H
    refine ⟨fun h => (by rw [h] at hr; cases hr), fun j hj => ?_⟩
    by_cases hji : j = i
    · subst hji; exact ⟨s1, hst, H⟩
    · have := ready_mono hj hji
      rw [H.1] at this
      cases this
  | succ f ih =>
    intro listed s s1 hsz hc hfree hr hst H
    refine ⟨fun h => (by rw [h] at hr; cases hr), fun j hj => ?_⟩
    by_cases hji : j = i
    · subst hji; exact ⟨s1, hst, H⟩
    · obtain ⟨hun, oj, hoj, hall⟩ := mem_ready.1 hj
      obtain ⟨hiun, oi', hoi', halli⟩ := mem_ready.1 hr
      have hilt : i < listed.size := by rw [hsz]; exact (Array.getElem?_eq_some_iff.1 hi).1
      have hjlt : j < listed.size := by rw [hsz]; exact (Array.getElem?_eq_some_iff.1 hoj).1
      have hna : ¬ anc B i j = true := fun ha => by
        have := anc_listed hB hc i (j + 1) j (Nat.lt_succ_self j) oj hoj hall ha
        simp [hilt] at this hiun
        rw [hiun] at this; cases this
      have hna' : ¬ anc B j i = true := fun ha => by
        have := anc_listed hB hc j (i + 1) i (Nat.lt_succ_self i) oi' hoi' halli ha
        simp [hjlt] at this hun
        rw [hun] at this; cases this
      obtain ⟨hap, hje⟩ := hfree j oj hoj hji hun hna
      obtain ⟨s2, h2, H2⟩ := H.2 j (ready_mono hj hji)
      obtain ⟨s', k1, k2⟩ := swap hi hoj (Ne.symm hji) hap hje hna hna' hst h2
      refine ⟨s', k1, ?_⟩
      refine ih (listed.setIfInBounds j true) s' s2 (by simpa using hsz) (hc.add hj) (fun k ok hk hki hku hkn => ?_) (ready_mono hr (Ne.symm hji)) k2 ?_
      · refine hfree k ok hk hki ?_ hkn
        by_cases hjk : j = k
        · subst hjk; exact hun
        · rw [getD_set_ne true hjk] at hku; exact hku
      · rw [Array.setIfInBounds_comm _ _ hji]; exact H2

/-! ### the chain of the canonical order -/
/-- What a call's executor keeps: it takes no block away. -/
def DomOK (call : FuncId → List AV → Hp → Option (AV × Hp)) : Prop := ∀ f args h r h1, call f args h = some (r, h1) → ∀ b, h.m.get b ≠ none → h1.m.get b ≠ none

theorem set_dom {h : Hp} {i b : Nat} {x : Blk} (hb : h.m.get b ≠ none) : (h.m.set i x).get b ≠ none := by
  rw [PT.get_set]; split
  · simp
  · exact hb
theorem putCells_dom {h h1 : Hp} {b off : Nat} {cs : List AV} (hp : putCells h b off cs = some h1) {i : Nat} (hi : h.m.get i ≠ none) : h1.m.get i ≠ none := by
  unfold putCells at hp
  split at hp
  · split at hp
    · injection hp with hp; subst hp; exact set_dom hi
    · cases hp
  · cases hp
theorem fresh_dom {h h1 : Hp} {id : Nat} {b : Blk} (hp : fresh h id b = some h1) {i : Nat} (hi : h.m.get i ≠ none) : h1.m.get i ≠ none := by
  rw [fresh_some hp]; exact set_dom hi

theorem putT_dom {h h1 : Hp} {b off : Nat} {cs : List AV} (hp : putT h b off cs = some h1) {i : Nat} (hi : h.m.get i ≠ none) : h1.m.get i ≠ none := by
  unfold putT at hp
  split at hp
  · split at hp
    · injection hp with hp; subst hp; exact set_dom hi
    · cases hp
  · cases hp
theorem appendT_dom {P : Program} {t u : TypeId} {id : Nat} {h h1 : Hp} {s x v : AV} (hh : aAppendT P t u id h s x = some (v, h1)) {i : Nat} (hi : h.m.get i ≠ none) : h1.m.get i ≠ none := by
  unfold aAppendT at hh
  split at hh <;> try cases hh
  · split at hh <;> try cases hh
    simp only [Option.map_eq_some_iff, Prod.mk.injEq] at hh; obtain ⟨h2, hf, _, rfl⟩ := hh; exact fresh_dom hf hi
  · split at hh <;> try cases hh
    split at hh <;> try cases hh
    split at hh <;> try cases hh
    split at hh <;> try cases hh
    split at hh <;> try cases hh
    rename_i h2 hf
    exact set_dom (fresh_dom hf hi)
theorem ustr_dom {P : Program} {pt : TypeId} {h h1 : Hp} {p n v : AV} (hh : aUStr P pt h p n = some (v, h1)) {i : Nat} (hi : h.m.get i ≠ none) : h1.m.get i ≠ none := by
  unfold aUStr at hh
  split at hh <;> try cases hh
  split at hh <;> try cases hh
  split at hh <;> try cases hh
  split at hh <;> try cases hh
  split at hh <;> try cases hh
  exact set_dom hi

theorem appendTo_dom {bytes sz n id : Nat} {h h1 : Hp} {new : List AV} {s v : AV} (hh : appendTo bytes sz n id h new s = some (v, h1)) {i : Nat} (hi : h.m.get i ≠ none) : h1.m.get i ≠ none := by
  unfold appendTo at hh
  split at hh
  · split at hh
    · simp only [Option.some.injEq, Prod.mk.injEq] at hh; rw [← hh.2]; exact hi
    · split at hh
      · simp only [Option.map_eq_some_iff, Prod.mk.injEq] at hh; obtain ⟨h2, hf, _, rfl⟩ := hh; exact fresh_dom hf hi
      · cases hh
  · split at hh
    · simp only [Option.some.injEq, Prod.mk.injEq] at hh; rw [← hh.2]; exact hi
    · cases hh
  · split at hh
    · cases hh
    · split at hh
      · simp only [Option.some.injEq, Prod.mk.injEq] at hh; rw [← hh.2]; exact hi
      · split at hh
        · simp only [Option.map_eq_some_iff, Prod.mk.injEq] at hh; obtain ⟨h2, hf, _, rfl⟩ := hh; exact putCells_dom hf hi
        · split at hh
          · cases hh
          · split at hh
            · split at hh
              · simp only [Option.map_eq_some_iff, Prod.mk.injEq] at hh; obtain ⟨h2, hf, _, rfl⟩ := hh; exact fresh_dom hf hi
              · split at hh
                · split at hh
                  · rename_i h2 hf
                    simp only [Option.some.injEq, Prod.mk.injEq] at hh; obtain ⟨_, rfl⟩ := hh; exact set_dom (fresh_dom hf hi)
                  · cases hh
                · cases hh
            · cases hh
  · cases hh

theorem aEff_dom {ev : Operand → AV} {id : Nat} {h h1 : Hp} {op : Op} {v : AV} (hh : aEff P ev id h op = some (v, h1)) {i : Nat} (hi : h.m.get i ≠ none) : h1.m.get i ≠ none := by
  cases op <;> simp only [aEff] at hh <;> try cases hh
  case store t a x =>
    split at hh <;> try cases hh
    split at hh <;> try cases hh
    split at hh
    · rename_i hp
      simp only [Option.some.injEq, Prod.mk.injEq] at hh; obtain ⟨_, rfl⟩ := hh; exact putCells_dom hp hi
    · exact putT_dom (map_pair hh).1 hi
  case mapUpdate t m k x =>
    have := (map_pair hh).1
    unfold aMapUpdate at this
    split at this <;> try cases this
    split at this <;> try cases this
    split at this <;> try cases this
    · exact set_dom hi
    · exact set_dom hi
  case mapEntry t m k =>
    unfold aMapEntry at hh
    split at hh <;> try cases hh
    split at hh <;> try cases hh
    split at hh <;> try cases hh
    · exact set_dom hi
    · split at hh <;> try cases hh
      exact set_dom hi
  case entryStore t m s x =>
    have := (map_pair hh).1
    unfold aEntryStore at this
    split at this <;> try cases this
    split at this <;> try cases this
    split at this <;> try cases this
    exact set_dom hi
  case next it b =>
    cases b <;> simp only at hh <;> try cases hh
    unfold aNext at hh
    split at hh <;> try cases hh
    split at hh <;> try cases hh
    split at hh
    · simp only [Option.some.injEq, Prod.mk.injEq] at hh; rw [← hh.2]; exact hi
    · split at hh <;> try cases hh
      exact set_dom hi
  case call cl =>
    unfold aEffCall at hh
    split at hh <;> try cases hh
    · split at hh <;> try cases hh
      split at hh
      · rename_i r hT; injection hh with hh; subst hh; exact appendT_dom hT hi
      unfold aAppend at hh
      split at hh <;> try cases hh
      split at hh <;> try cases hh
      split at hh <;> try cases hh
      split at hh <;> try cases hh
      split at hh <;> try cases hh
      split at hh <;> try cases hh
      exact appendTo_dom hh hi
    · split at hh <;> try cases hh
      split at hh <;> try cases hh
      split at hh <;> try cases hh
      exact hi
    · split at hh <;> try cases hh
      exact ustr_dom hh hi
    · split at hh <;> try cases hh
      unfold aCopy at hh
      split at hh <;> try cases hh
      split at hh <;> try cases hh
      split at hh <;> try cases hh
      split at hh <;> try cases hh
      · exact hi
      · exact hi
      · split at hh <;> try cases hh
        simp only [Option.map_eq_some_iff, Prod.mk.injEq] at hh; obtain ⟨h2, hf, _, rfl⟩ := hh; exact putCells_dom hf hi
    · split at hh <;> try cases hh
      have := (map_pair hh).1
      unfold aClear at this
      split at this <;> try cases this
      · exact hi
      · exact hi
      · exact hi
      · split at this <;> try cases this
        split at this <;> try cases this
        split at this
        · injection this with this; subst this; exact hi
        · exact putCells_dom this hi
      · split at this <;> try cases this
        exact set_dom hi

theorem opVal_dom (hcall : DomOK call) {i : Nat} {env : Env} {h h1 : Hp} {o : Oper} {v : AV} (hh : opVal P call base i env h o = some (v, h1)) : ∀ b, h.m.get b ≠ none → h1.m.get b ≠ none := by
  intro b hb
  unfold opVal at hh
  split at hh
  · split at hh
    · split at hh
      · exact hcall _ _ _ _ _ hh b hb
      · split at hh
        · simp only [Option.some.injEq, Prod.mk.injEq] at hh; rw [← hh.2]; exact hb
        · cases hh
    · exact aEff_dom hh hb
  · split at hh
    · simp only [Option.some.injEq, Prod.mk.injEq] at hh; rw [← hh.2]; exact hb
    · split at hh
      · rename_i h2 hf
        simp only [Option.some.injEq, Prod.mk.injEq] at hh; rw [← hh.2]; exact fresh_dom hf hb
      · cases hh
    · cases hh
end
end Go.Vk
set_option linter.unusedSimpArgs false
set_option linter.unusedVariables false
namespace Go.Vk
section
variable {P : Program} {call : FuncId → List AV → Hp → Option (AV × Hp)} {ops : Array Oper} {B : List Nat} {nt base : Nat}

/-! ### heaps that are the same block by block -/
theorem Rel.ext {c : Cx} {h h' : Hp} (hr : Rel c h) (hg : ∀ b, h'.m.get b = h.m.get b) (hn : h'.nx = h.nx) : Rel c h' :=
  ⟨fun b k hk => hr.dom b k (by rw [← hg b]; exact hk), fun b hb => by rw [hn]; exact hr.lt b hb, fun b k hk => hr.blk b k (by rw [← hg b]; exact hk),
   fun b b' k k' hk hk' => hr.inj b b' k k' (by rw [← hg b]; exact hk) (by rw [← hg b']; exact hk'), hr.zone, fun b k hk => hr.out b k (by rw [← hg b]; exact hk)⟩
theorem Step.ext {c c' : Cx} {h h1 h2 : Hp} (hs : Step c h c' h1) (hg : ∀ b, h2.m.get b = h1.m.get b) (hn : h2.nx = h1.nx) : Step c h c' h2 :=
  ⟨hs.le, hs.os, hs.tape, hs.output, hs.size, hs.same, fun b x hb hl => hs.lives b x (by rw [← hg b]; exact hb) hl, by rw [hn]; exact hs.nx, hs.zn⟩
theorem EnvR.put_ext {c : Cx} {env env1 : Env} {a : Act} {dst : Option Tmp} {v : AV} {x : Value} (he : EnvR c nt env a.tmps) (hv : VR c v x) (hd : ∀ d, dst = some d → d < nt) (hp : ∀ t, env1.get t = if dst = some t then some v else env.get t) :
    EnvR c nt env1 (a.put dst x).tmps := by
  refine ⟨by cases dst <;> simp [Act.put, he.size], fun t u hu => ?_, he.glob⟩
  rw [hp t] at hu
  cases dst with
  | none => simp at hu; exact he.val t u hu
  | some d =>
    simp only [Option.some.injEq] at hu
    split at hu
    · rename_i e; injection hu with hu; subst hu e
      exact ⟨x, by simp [Act.put, he.size, hd _ rfl], hv⟩
    · rename_i e
      obtain ⟨y, hy, hr⟩ := he.val t u hu
      exact ⟨y, by simp only [Act.put]; rw [Array.getElem?_setIfInBounds_ne e]; exact hy, hr⟩

/-! ### a part of a heap -/
theorem Rel.sub {c : Cx} {h hs : Hp} (hr : Rel c h) (hsub : ∀ b x, hs.m.get b = some x → h.m.get b = some x) (hn : hs.nx = h.nx) : Rel c hs :=
  ⟨fun b k hk => hr.dom b k (hsub b k hk), fun b hb => by rw [hn]; exact hr.lt b hb, fun b k hk => hr.blk b k (hsub b k hk),
   fun b b' k k' hk hk' => hr.inj b b' k k' (hsub b k hk) (hsub b' k' hk'), hr.zone, fun b k hk => hr.out b k (hsub b k hk)⟩

theorem merge_ok {c c' : Cx} {h hs hs1 h1 : Hp} (hr : Rel c h) (hsub : ∀ b x, hs.m.get b = some x → h.m.get b = some x) (hn : hs.nx = h.nx) (hr1 : Rel c' hs1) (hst : Step c hs c' hs1) (hdom : ∀ b, hs.m.get b ≠ none → hs1.m.get b ≠ none)
    (hm : ∀ b, h1.m.get b = match hs1.m.get b with | some x => some x | none => h.m.get b) (hn1 : h1.nx = hs1.nx) : Rel c' h1 ∧ Step c h c' h1 := by
  have hcase : ∀ b x, h1.m.get b = some x → hs1.m.get b = some x ∨ (hs1.m.get b = none ∧ hs.m.get b = none ∧ h.m.get b = some x) := fun b x hb => by
    rw [hm b] at hb
    split at hb
    · rename_i y hy; injection hb with hb; subst hb; exact .inl hy
    · rename_i hy
      refine .inr ⟨hy, ?_, hb⟩
      cases hsb : hs.m.get b with
      | none => rfl
      | some z => exact absurd hy (hdom b (by simp [hsb]))
  have hextra : ∀ b x, hs.m.get b = none → h.m.get b = some x → x.live = true → (c.rho b).1 < c.w.heap.size ∧ ¬ own c hs (c.rho b).1 ∧ c'.rho b = c.rho b := fun b x hsb hb hl => by
    refine ⟨(hr.blk b x hb).lt hl, ?_, (hst.le.d b (hr.dom b x hb)).2⟩
    rintro ⟨b', x', hb', hw', he⟩
    have hne : b ≠ b' := fun e => by subst e; rw [hsb] at hb'; cases hb'
    exact hr.inj b b' x x' hb (hsub b' x' hb') hne hl hw' he.symm
  refine ⟨⟨?_, ?_, ?_, ?_, hr1.zone, ?_⟩, ⟨hst.le, hst.os, hst.tape, hst.output, hst.size, ?_, ?_, by rw [hn1, ← hn]; exact hst.nx, hst.zn⟩⟩
  · intro b x hb
    rcases hcase b x hb with h0 | ⟨_, _, h0⟩
    · exact hr1.dom b x h0
    · exact (hst.le.d b (hr.dom b x h0)).1
  · intro b hb; rw [hn1]; exact hr1.lt b hb
  · intro b x hb
    rcases hcase b x hb with h0 | ⟨_, hsb, h0⟩
    · exact hr1.blk b x h0
    · cases hl : x.live with
      | false => cases x <;> simp [Blk.live] at hl; trivial
      | true =>
        obtain ⟨g1, g2, _⟩ := hextra b x hsb h0 hl
        exact BR.mono hst.le (hr.dom b x h0) (hst.same _ g1 g2) (hr.blk b x h0)
  · intro b b' x x' hb hb' hne hl hw
    rcases hcase b x hb with h0 | ⟨_, hsb, h0⟩ <;> rcases hcase b' x' hb' with h0' | ⟨_, hsb', h0'⟩
    · exact hr1.inj b b' x x' h0 h0' hne hl hw
    · obtain ⟨g1, g2, g3⟩ := hextra b' x' hsb' h0' (Blk.live_of_rw hw)
      rw [g3]
      rcases hst.lives b x h0 hl with ⟨b0, x0, e0, hl0, _, he⟩ | hge
      · rw [← he]
        exact hr.inj b0 b' x0 x' (hsub b0 x0 e0) h0' (fun e => by subst e; rw [hsb'] at e0; cases e0) hl0 hw
      · omega
    · obtain ⟨g1, g2, g3⟩ := hextra b x hsb h0 hl
      rw [g3]
      rcases hst.lives b' x' h0' (Blk.live_of_rw hw) with ⟨b0, x0, e0, hl0, hrw, he⟩ | hge
      · rw [← he]
        exact hr.inj b b0 x x0 h0 (hsub b0 x0 e0) (fun e => by subst e; rw [hsb] at e0; cases e0) hl (hrw hw)
      · omega
    · obtain ⟨g1, g2, g3⟩ := hextra b x hsb h0 hl
      obtain ⟨k1, k2, k3⟩ := hextra b' x' hsb' h0' (Blk.live_of_rw hw)
      rw [g3, k3]
      exact hr.inj b b' x x' h0 h0' hne hl hw
  · intro b x hb hw hz
    rcases hcase b x hb with h0 | ⟨_, hsb, h0⟩
    · exact hr1.out b x h0 hw hz
    · obtain ⟨g1, g2, g3⟩ := hextra b x hsb h0 (Blk.live_of_rw hw)
      rw [g3] at hz
      rcases hst.zn _ hz with hz' | hz'
      · exact hr.out b x h0 hw hz'
      · omega
  · intro k hk hno
    refine hst.same k hk (fun ho => hno ?_)
    obtain ⟨b, x, hb, hw, he⟩ := ho
    exact ⟨b, x, hsub b x hb, hw, he⟩
  · intro b x hb hl
    rcases hcase b x hb with h0 | ⟨_, hsb, h0⟩
    · rcases hst.lives b x h0 hl with ⟨b0, x0, e0, hl0, hrw, he⟩ | hge
      · exact .inl ⟨b0, x0, hsub b0 x0 e0, hl0, hrw, he⟩
      · exact .inr hge
    · obtain ⟨g1, g2, g3⟩ := hextra b x hsb h0 hl
      exact .inl ⟨b, x, h0, hl, fun hh => hh, by rw [g3]⟩

/-! ### one operation, in a world -/
theorem astep_wp (hcall : CallOK P call) (hdom : DomOK call) {i : Nat} {s s1 : AS} {c : Cx} {a : Act} (hst : astep P call ops B nt base i s s1) (hr : Rel c s.h) (he : EnvR c nt s.env a.tmps) (hd : ¬ c.D (base + i)) (hid : base + i < s.h.nx)
    {K : Act → World → Prop} {Q : Exit → Act → World → Prop}
    (hK : ∀ a1 c1, Rel c1 s1.h → Step c s.h c1 s1.h → EnvR c1 nt s1.env a1.tmps → a1.defers = a.defers → (∀ b, c1.D b → c.D b ∨ b = base + i ∨ s.h.nx ≤ b) → K a1 c1.w) : wpOp P ops Q i K a c.w := by
  obtain ⟨o, ho, hdn, ⟨hw, hv, hb, hn, hs⟩ | ⟨hw, v, hv, ⟨heff, blk, hp, hf, hro, hb, hn, hs⟩ | ⟨heff, hs0, hs1, hsub, hnx, hop, hb, hn, hsg⟩⟩⟩ := hst
  · unfold wpOp
    rw [ho]
    simp only
    rw [wantA_ok he hw]
    simp only [Bool.false_eq_true, if_false]
    exact hK _ c (hr.ext hb hn) ((Step.refl c s.h).ext hb hn) (he.put_ext (x := undef) (by simp [VR, VRL, undef]) hdn hv) (put_defers _ _ _) (fun _ hb => .inl hb)
  · unfold wpOp
    rw [ho]
    simp only
    rw [wantA_ok he hw]
    simp only [if_true]
    have hop : opVal P call base i s.env s.h o = some (v, hpPut s.h (base + i) blk) := by
      unfold opVal
      rw [heff]
      simp only
      rw [hp]
      cases blk with
      | none => rfl
      | some x =>
        simp only
        have : fresh s.h (base + i) x = some { s.h with m := s.h.m.set (base + i) x } := by unfold fresh; rw [hf rfl]
        rw [this]
        rfl
    refine .inl (opVal_ok hcall hr he.glob hd hid he.eval hop (fun x c' g1 g2 g3 g4 => ?_))
    have hg : ∀ b, s1.h.m.get b = (hpPut s.h (base + i) blk).m.get b := fun b => by rw [hb b, hpPut_get]
    have hnn : s1.h.nx = (hpPut s.h (base + i) blk).nx := by rw [hn, hpPut_nx]
    exact hK _ c' (g2.ext hg hnn) (g3.ext hg hnn) ((he.mono g3.le).put_ext g1 hdn hv) (put_defers _ _ _) g4
  · unfold wpOp
    rw [ho]
    simp only
    rw [wantA_ok he hw]
    simp only [if_true]
    refine .inl (opVal_ok hcall (hr.sub hsub hnx) he.glob hd (by rw [hnx]; exact hid) he.eval hop (fun x c' g1 g2 g3 g4 => ?_))
    obtain ⟨k1, k2⟩ := merge_ok hr hsub hnx g2 g3 (opVal_dom hdom hop) hb hn
    exact hK _ c' k1 k2 ((he.mono k2.le).put_ext g1 hdn hv) (put_defers _ _ _) (fun b hbd => by rw [← hnx]; exact g4 b hbd)

theorem AG_wp (hcall : CallOK P call) (hdom : DomOK call) {F : AS → Prop} {Q : Exit → Act → World → Prop} {c0 : Cx} {h0 : Hp} {d0 : List Deferred} (hbase : h0.nx ≤ base) (hQ : ∀ a1 c1 s1, F s1 → Rel c1 s1.h → EnvR c1 nt s1.env a1.tmps → Step c0 h0 c1 s1.h → a1.defers = d0 → (∀ b, c1.D b → c0.D b ∨ h0.nx ≤ b) → Q .normal a1 c1.w) :
    ∀ (f : Nat) (listed : Array Bool) (s : AS) (c : Cx) (a : Act), AG P call ops B nt base F f listed s → listed.size = ops.size → Rel c s.h → EnvR c nt s.env a.tmps → base + ops.size ≤ s.h.nx →
      (∀ i, i < ops.size → listed.getD i true = false → ¬ c.D (base + i)) → Step c0 h0 c s.h → a.defers = d0 → (∀ b, c.D b → c0.D b ∨ h0.nx ≤ b) → wpAny P .any ops Q f listed a c.w
  | 0, listed, s, c, a, H, hsz, hr, he, hn, hd, hs, hdf, hdd => ⟨H.1, hQ a c s H.2 hr he hs hdf hdd⟩
  | f + 1, listed, s, c, a, H, hsz, hr, he, hn, hd, hs, hdf, hdd => by
    refine ⟨fun h => hQ a c s (H.1 h) hr he hs hdf hdd, fun i hi => ?_⟩
    obtain ⟨s1, h1, H1⟩ := H.2 i hi
    obtain ⟨hun, o, ho, hall⟩ := mem_ready.1 hi
    have hilt : i < ops.size := (Array.getElem?_eq_some_iff.1 ho).1
    refine astep_wp hcall hdom h1 hr he (hd i hilt hun) (by omega) (fun a1 c1 g1 g2 g3 g4 g5 => ?_)
    refine AG_wp hcall hdom hbase hQ f _ s1 c1 a1 H1 (by simpa using hsz) g1 g3 (Nat.le_trans hn g2.nx) (fun j hj hju hdj => ?_) (hs.trans g2) (g4.trans hdf) (fun b hb => ?_)
    have hji : i ≠ j := fun e => by
      subst e
      have : i < listed.size := by omega
      simp [this] at hju
    rw [getD_set_ne true hji] at hju
    rcases g5 _ hdj with e | e | e
    · exact hd j hj hju e
    · omega
    · omega
    rcases g5 b hb with e | e | e
    · exact hdd b e
    · exact .inr (by omega)
    · exact .inr (by omega)

/-! ### the canonical order -/
theorem putA_some {env env1 : Env} {dst : Option Tmp} {v : AV} (h : putA nt env dst v = some env1) : (∀ d, dst = some d → d < nt) ∧ ∀ t, env1.get t = if dst = some t then some v else env.get t := by
  unfold putA at h
  split at h
  · injection h with h; subst h; exact ⟨fun d hd => (by cases hd), fun t => (by simp)⟩
  · rename_i d
    split at h
    · rename_i hd
      injection h with h; subst h
      refine ⟨fun d' hd' => by injection hd' with hd'; subst hd'; exact hd, fun t => ?_⟩
      rw [PT.get_set]
      simp only [Option.some.injEq]
      by_cases e : t = d
      · simp [e]
      · rw [if_neg e, if_neg (Ne.symm e)]
    · cases h

theorem drawStep_ok (hdom : DomOK call) {i : Nat} {env env1 : Env} {h h1 : Hp} {segs segs1 : List (Nat × Hp)} (hh : drawStep P call ops B nt base i env h segs = some (env1, h1, segs1)) :
    astep P call ops B nt base i ⟨env, h, segs⟩ ⟨env1, h1, segs1⟩ := by
  unfold drawStep at hh
  split at hh
  · cases hh
  · rename_i o ho
    split at hh
    · cases hh
    · rename_i hw
      split at hh
      · rename_i e2 hp
        simp only [Option.some.injEq, Prod.mk.injEq] at hh; obtain ⟨rfl, rfl, rfl⟩ := hh
        obtain ⟨p1, p2⟩ := putA_some hp
        exact ⟨o, ho, p1, .inl ⟨hw, p2, fun _ => rfl, rfl, rfl⟩⟩
      · cases hh
    · rename_i hw
      split at hh
      · cases hh
      · rename_i v h2 hv
        split at hh
        · cases hh
        · rename_i e2 hp
          obtain ⟨p1, p2⟩ := putA_some hp
          split at hh
          · rename_i heff
            simp only [Option.some.injEq, Prod.mk.injEq] at hh; obtain ⟨rfl, rfl, rfl⟩ := hh
            refine ⟨o, ho, p1, .inr ⟨hw, v, p2, .inr ⟨heff, h, h2, fun _ _ hb => hb, rfl, hv, fun b => ?_, rfl, rfl⟩⟩⟩
            simp only
            split
            · rename_i x hx; exact hx
            · rename_i hx
              rw [hx]
              cases hb : h.m.get b with
              | none => rfl
              | some z => exact absurd hx (opVal_dom hdom hv b (by simp [hb]))
          · rename_i heff
            split at hh
            · rename_i hro
              simp only [Option.some.injEq, Prod.mk.injEq] at hh; obtain ⟨rfl, rfl, rfl⟩ := hh
              unfold opVal at hv
              rw [heff] at hv
              simp only at hv
              split at hv
              · rename_i v' hp'
                simp only [Option.some.injEq, Prod.mk.injEq] at hv; obtain ⟨rfl, rfl⟩ := hv
                exact ⟨o, ho, p1, .inr ⟨hw, v', p2, .inl ⟨heff, none, hp', (fun hb => (by cases hb)), hro, (fun b => (by simp)), rfl, rfl⟩⟩⟩
              · rename_i v' b hp'
                split at hv
                · rename_i h3 hf
                  simp only [Option.some.injEq, Prod.mk.injEq] at hv; obtain ⟨rfl, rfl⟩ := hv
                  have hnone : h.m.get (base + i) = none := by
                    unfold fresh at hf
                    split at hf
                    · assumption
                    · cases hf
                  have hf2 := fresh_some hf
                  subst hf2
                  refine ⟨o, ho, p1, .inr ⟨hw, v', p2, .inl ⟨heff, some b, hp', fun _ => hnone, hro, fun b' => ?_, rfl, rfl⟩⟩⟩
                  simp only [PT.get_set, Option.isSome_some, and_true]
                · cases hv
              · cases hv
            · cases hh

theorem chain (hdom : DomOK call) (hB : bitsOk ops.toList B = true) {envN : Env} {hN : Hp} : ∀ (r done : List Nat) (listed : Array Bool) (env : Env) (h : Hp) (segs : List (Nat × Hp)), ordOk ops B done r = true → listed.size = ops.size →
    (∀ j, j < ops.size → (listed.getD j false = true ↔ j ∈ done)) → Closed ops listed → (∀ j, j < ops.size → j ∈ done ∨ j ∈ r) → drawOps P call ops B nt base r env h segs = some (envN, hN) →
    AG P call ops B nt base (fun s => s.env = envN ∧ s.h = hN) r.length listed ⟨env, h, segs⟩
  | [], done, listed, env, h, segs, hord, hsz, hl, hc, hall, hh => by
    simp only [drawOps, Option.some.injEq, Prod.mk.injEq] at hh
    refine ⟨?_, hh⟩
    rw [List.eq_nil_iff_forall_not_mem]
    intro j hj
    obtain ⟨hun, o, ho, _⟩ := mem_ready.1 hj
    have hjlt := (Array.getElem?_eq_some_iff.1 ho).1
    have := (hl j hjlt).2 ((hall j hjlt).resolve_right (by simp))
    have hjl : j < listed.size := by omega
    simp [hjl] at this hun
    rw [hun] at this; cases this
  | i :: r, done, listed, env, h, segs, hord, hsz, hl, hc, hall, hh => by
    simp only [drawOps] at hh
    split at hh
    · rename_i env1 h1 segs1 hs
      simp only [ordOk, Bool.and_eq_true] at hord
      obtain ⟨⟨⟨o1, o2⟩, o3⟩, o4⟩ := hord
      have hst := drawStep_ok hdom hs
      have hst0 := hst
      obtain ⟨oi, hoi, _⟩ := hst0
      have hilt := (Array.getElem?_eq_some_iff.1 hoi).1
      have hil : i < listed.size := by omega
      rw [hoi] at o2
      simp only at o2
      have hndone : i ∉ done := by simpa using o1
      have hunl : listed.getD i true = false := by
        have h0 : ¬ listed.getD i false = true := fun h0 => hndone ((hl i hilt).1 h0)
        simp [hil] at h0 ⊢
        exact h0
      have hready : i ∈ Region.ready .any ops listed := by
        refine mem_ready.2 ⟨hunl, oi, hoi, fun e he hb => ?_⟩
        rw [List.all_eq_true] at o2
        have := o2 e (by simpa using he)
        simp only [Bool.or_eq_true, Bool.not_eq_true'] at this
        rcases this with h0 | h0
        · rw [show binds e = Region.binds .any e from rfl, hb] at h0; cases h0
        · have hmem : e.on ∈ done := by simpa using h0
          have := (bits_at hB hoi).1 e he hb
          exact (hl e.on (by omega)).2 hmem
      have hl' : ∀ j, j < ops.size → ((listed.setIfInBounds i true).getD j false = true ↔ j ∈ i :: done) := fun j hj => by
        by_cases e : i = j
        · subst e; simp [hil]
        · rw [getD_set_ne false e, hl j hj]
          simp [Ne.symm e]
      have ih := chain hdom hB r (i :: done) (listed.setIfInBounds i true) env1 h1 segs1 o4 (by simpa using hsz) hl' (hc.add hready)
        (fun j hj => by
          rcases hall j hj with h0 | h0
          · exact .inl (List.mem_cons_of_mem _ h0)
          · rcases List.mem_cons.1 h0 with rfl | h0
            · exact .inl (List.mem_cons_self ..)
            · exact .inr h0) hh
      refine AG_first hB hoi r.length listed _ _ hsz hc (fun j oj hoj hji hun hna => ?_) hready hst ih
      have hjlt := (Array.getElem?_eq_some_iff.1 hoj).1
      have hjl : j < listed.size := by omega
      have hnd : j ∉ done := fun hm => by
        have := (hl j hjlt).2 hm
        simp [hjl] at this hun
        rw [hun] at this; cases this
      have hjr : j ∈ r := by
        rcases hall j hjlt with h0 | h0
        · exact absurd h0 hnd
        · exact (List.mem_cons.1 h0).resolve_left hji
      rw [List.all_eq_true] at o3
      have := o3 j hjr
      simp only [Bool.and_eq_true] at this
      have hp := this.2
      unfold pairOk at hp
      simp only [Bool.or_eq_true] at hp
      rcases hp with h0 | h0
      · exact absurd h0 hna
      · rw [hoi, hoj] at h0
        simp only [Bool.and_eq_true, Bool.not_eq_true'] at h0
        exact h0
    · cases hh

/-- A region, whatever its order. -/
theorem region_ok (hm : P.follows .mixedOrders = true) (hcall : CallOK P call) (hdom : DomOK call) {id : Nat} {draw : Bool} {env env1 : Env} {h h1 : Hp} {c : Cx} {a : Act} (hr : Rel c h) (he : EnvR c nt env a.tmps)
    (hh : runRegion P call ops draw nt env h = some (env1, h1)) {Q : Exit → Act → World → Prop}
    (hQ : ∀ a1 c1, Rel c1 h1 → EnvR c1 nt env1 a1.tmps → Step c h c1 h1 → a1.defers = a.defers → (∀ b, c1.D b → c.D b ∨ h.nx ≤ b) → Q .normal a1 c1.w) : (Code.region id ops draw).wp P Q a c.w := by
  unfold runRegion at hh
  have hr0 : Rel c { h with nx := h.nx + ops.size } := nx_rel hr ops.size
  have hs0 : Step c h c { h with nx := h.nx + ops.size } := nx_step ops.size
  have hfree : ∀ i, ¬ c.D (h.nx + i) := fun i hi => by have := hr.lt _ hi; omega
  split at hh
  · refine wp_region ?_
    exact seqOps_ok hcall (n := ops.size) (List.range ops.size) env _ c a List.nodup_range (fun i hi => List.mem_range.1 hi) hr0 he (Nat.le_refl _) (fun i _ => hfree i) hh
      (fun a1 c1 g1 g2 g3 g4 g5 => hQ a1 c1 g1 g3 (hs0.trans g2) g4 g5)
  · split at hh
    · rename_i hok
      unfold regionOk at hok
      simp only [Bool.and_eq_true] at hok
      obtain ⟨⟨⟨k1, k2⟩, k3⟩, k4⟩ := hok
      rw [List.all_eq_true] at k4
      refine wp_region_any hm ?_
      have hdr := draw_step hr0
      have hch := chain hdom k1 (ordOf ops.toList (befores ops)) [] (Array.replicate ops.size false) env _ [] k2 (by simp) (fun j hj => by simp [hj]) (fun j o ho hl => by simp [(Array.getElem?_eq_some_iff.1 ho).1] at hl) (fun j hj => .inr (by
          have := k4 j (List.mem_range.2 hj)
          simpa using this)) hh
      rw [Nat.eq_of_beq_eq_true k3] at hch
      refine AG_wp hcall hdom (c0 := c) (h0 := h) (d0 := a.defers) (Nat.le_refl _) (fun a1 c1 s1 hF g1 g2 g3 g4 g5 => ?_) ops.size _ _ c.draw a hch (by simp) hdr.1 (he.mono hdr.2.le) (Nat.le_refl _) (fun i hi _ => hfree i) (hs0.trans hdr.2) rfl (fun b hb => .inl hb)
      obtain ⟨e1, e2⟩ := hF
      rw [e1] at g2
      rw [e2] at g1 g3
      exact hQ a1 c1 g1 g2 g3 g4 g5
    · cases hh
end
end Go.Vk
set_option linter.unusedSimpArgs false
set_option linter.unusedVariables false
namespace Go.Vk
section
variable {P : Program}

def exR : AEx → Exit
  | .normal => .normal
  | .exit i => .exit i
  | .ret => .ret

/-- What a run of bodies is worth. -/
def BodyOK (P : Program) (go : Nat → Code → Env → Hp → Option (AEx × Env × Hp)) : Prop :=
  ∀ (nt : Nat) (code : Code) (env : Env) (h : Hp) (x : AEx) (env1 : Env) (h1 : Hp), go nt code env h = some (x, env1, h1) → ∀ (c : Cx) (a : Act) (Q : Exit → Act → World → Prop), Rel c h → EnvR c nt env a.tmps →
    (∀ a1 c1, Rel c1 h1 → EnvR c1 nt env1 a1.tmps → Step c h c1 h1 → a1.defers = a.defers → (∀ b, c1.D b → c.D b ∨ h.nx ≤ b) → Q (exR x) a1 c1.w) → code.wp P Q a c.w
def BodyDom (go : Nat → Code → Env → Hp → Option (AEx × Env × Hp)) : Prop :=
  ∀ (nt : Nat) (code : Code) (env : Env) (h : Hp) (x : AEx) (env1 : Env) (h1 : Hp), go nt code env h = some (x, env1, h1) → ∀ b, h.m.get b ≠ none → h1.m.get b ≠ none

theorem initEnv_ok {c : Cx} {nt : Nat} (hgl : GlobOK c) : ∀ {args : List AV} {vs pre post : List Value}, VRL c args vs → (pre ++ vs ++ post).length = nt → EnvR c nt (initEnv pre.length args) (pre ++ vs ++ post).toArray
  | [], vs, pre, post, h, hl => ⟨by simpa using hl, fun t v hv => (by simp [initEnv, PT.get] at hv), hgl⟩
  | x :: xs, vs, pre, post, h, hl => by
    simp only [VRL] at h
    obtain ⟨y, ys, rfl, h1, h2⟩ := h
    have ih := initEnv_ok hgl (nt := nt) (pre := pre ++ [y]) (post := post) h2 (by simpa using hl)
    simp only [List.append_assoc, List.cons_append, List.nil_append] at ih ⊢
    refine ⟨by simpa using hl, fun t v hv => ?_, hgl⟩
    simp only [initEnv] at hv
    rw [PT.get_set] at hv
    split at hv
    · rename_i e; injection hv with hv; subst hv e
      exact ⟨y, by simp, h1⟩
    · rw [show pre.length + 1 = (pre ++ [y]).length by simp] at hv
      exact ih.val t v hv

theorem VRL.singleton {c : Cx} {x : AV} {v : Value} (h : VR c x v) : VRL c [x] [v] := ⟨v, [], rfl, h, rfl⟩

def rsem (tmps : Array Value) : ResultVar → Sem Value
  | .tmp t => pure (tmps.getD t undef)
  | .cell a t => do loadVar t (← asAddr (tmps.getD a undef))

theorem resultsA_ok {c : Cx} {h : Hp} {nt : Nat} {env : Env} {a : Act} (hr : Rel c h) (he : EnvR c nt env a.tmps) : ∀ {rs : List ResultVar} {vs : List AV}, resultsA P env h rs = some vs → ∃ us : List Value, (rs.mapM (rsem a.tmps)).run P c.w = .ok us c.w ∧ VRL c vs us
  | [], vs, hh => by
    simp only [resultsA, Option.some.injEq] at hh; subst hh
    exact ⟨[], by simp, by simp [VRL]⟩
  | .tmp t :: r, vs, hh => by
    simp only [resultsA] at hh
    split at hh
    · rename_i vs' hv
      injection hh with hh; subst hh
      obtain ⟨us, g1, g2⟩ := resultsA_ok hr he hv
      refine ⟨a.eval (.tmp t) :: us, ?_, by simp only [VRL]; exact ⟨_, _, rfl, he.eval _, g2⟩⟩
      simp only [List.mapM_cons, Sem.run_bind, rsem, Sem.run_pure, Result.andThen_ok, g1, Act.eval]
    · cases hh
  | .cell t ty :: r, vs, hh => by
    simp only [resultsA] at hh
    split at hh
    · rename_i v vs' hv hvs
      injection hh with hh; subst hh
      obtain ⟨us, g1, g2⟩ := resultsA_ok hr he hvs
      unfold loadA at hv
      split at hv
      · rename_i b off hb
        split at hv
        · rename_i ht
          split at hv
          · rename_i cs hg
            obtain ⟨x, hx, hxr⟩ := loadVar_ok hr ht hg hv
            refine ⟨x :: us, ?_, by simp only [VRL]; exact ⟨_, _, rfl, hxr, g2⟩⟩
            have hp := he.eval (.tmp t)
            rw [hb] at hp
            simp only [VR, Act.eval] at hp
            simp only [List.mapM_cons, Sem.run_bind, rsem, hp.2, asAddr, Sem.run_pure, Result.andThen_ok, hx, g1]
          · split at hv <;> try cases hv
            rename_i cs hg
            obtain ⟨x, hx, hxr⟩ := loadVarT_ok hr ht hg hv
            refine ⟨x :: us, ?_, by simp only [VRL]; exact ⟨_, _, rfl, hxr, g2⟩⟩
            have hp := he.eval (.tmp t)
            rw [hb] at hp
            simp only [VR, Act.eval] at hp
            simp only [List.mapM_cons, Sem.run_bind, rsem, hp.2, asAddr, Sem.run_pure, Result.andThen_ok, hx, g1]
        · cases hv
      · cases hv
    · cases hh

theorem results_ok {c : Cx} {h : Hp} {nt : Nat} {env : Env} {a : Act} {fn : Func} {vs : List AV} (hr : Rel c h) (he : EnvR c nt env a.tmps) (hh : resultsA P env h fn.results.toList = some vs) : ∃ v, (results fn a.tmps).run P c.w = .ok v c.w ∧ VR c (oneOrTup vs) v := by
  obtain ⟨us, g1, g2⟩ := resultsA_ok (P := P) hr he hh
  have hm : (fn.results.mapM (rsem a.tmps)).run P c.w = .ok us.toArray c.w := by
    rw [show fn.results = fn.results.toList.toArray by simp, List.mapM_toArray]
    simp only [Sem.run_map, g1]
    rfl
  have hres : results fn a.tmps = (fn.results.mapM (rsem a.tmps) >>= fun vs => (Pure.pure (if h : vs.size = 1 then vs[0] else .tuple vs) : Sem Value)) := by
    unfold results
    congr 2
  rw [hres]
  simp only [Sem.run_bind, hm, Result.andThen_ok, Sem.run_pure]
  refine ⟨_, rfl, ?_⟩
  match vs, g2 with
  | [], g2 => simp only [VRL] at g2; subst g2; simp only [oneOrTup, VR]; exact ⟨#[], by simp, by simp [VRL]⟩
  | [v], g2 =>
    simp only [VRL] at g2
    obtain ⟨y, ys, rfl, k1, rfl⟩ := g2
    simpa [oneOrTup] using k1
  | v :: w :: r, g2 =>
    have hl := g2.length
    simp only [oneOrTup, VR]
    have : ¬ us.toArray.size = 1 := by simp at hl ⊢; omega
    rw [dif_neg this]
    exact ⟨us.toArray, rfl, g2⟩

/-- Hooks that hold. -/
theorem callW_ok {hk : Hooks} {go : Nat → Code → Env → Hp → Option (AEx × Env × Hp)} (hhk : CallOK P hk) (hgo : BodyOK P go) : CallOK P (callW P hk go) := by
  intro f args h r h1 hh c vs hr hgl hv
  unfold callW at hh
  split at hh
  · rename_i r' hr'
    injection hh with hh; subst hh
    exact hhk f args h r h1 hr' c vs hr hgl hv
  · split at hh
    · cases hh
    · rename_i e hf
      obtain ⟨fn, k1, k2, k3, k4, k5⟩ := fnE_some hf
      split at hh
      · rename_i hle
        have hvl := hv.length
        have hsz : vs.size = args.length := by simpa using hvl
        have he : EnvR c e.nt (initEnv 0 args) (vs ++ Array.replicate (fn.ntmps - vs.size) undef) := by
          have := initEnv_ok hgl (c := c) (nt := e.nt) (pre := []) (post := List.replicate (fn.ntmps - vs.size) undef) hv (by simp [hsz, k4]; omega)
          have heq : ([] ++ vs.toList ++ List.replicate (fn.ntmps - vs.size) undef).toArray = vs ++ Array.replicate (fn.ntmps - vs.size) undef := by
            apply Array.ext'; simp
          rw [heq] at this
          exact this
        refine calls_of_wp k1 k3 ?_
        have hfin : ∀ (x : AEx) env1 h2, (x = .normal ∨ x = .ret) → go e.nt e.body (initEnv 0 args) h = some (x, env1, h2) → (match resultsA P env1 h2 e.results with
            | some vs => some (oneOrTup vs, h2)
            | none => none) = some (r, h1) → e.body.wp P (bodyPost P fn fun e w' => ∃ x c', e = .returned x ∧ c'.w = w' ∧ Rel c' h1 ∧ Step c h c' h1 ∧ VR c' r x ∧ ∀ b, c'.D b → c.D b ∨ h.nx ≤ b)
              { tmps := vs ++ Array.replicate (fn.ntmps - vs.size) undef, defers := [] } c.w := by
          intro x env1 h2 hx hg hm
          split at hm
          · rename_i rs hrs
            simp only [Option.some.injEq, Prod.mk.injEq] at hm; obtain ⟨rfl, rfl⟩ := hm
            refine hgo _ _ _ _ _ _ _ hg c _ _ hr he (fun a1 c1 g1 g2 g3 g4 g5 => ?_)
            obtain ⟨v, hv1, hv2⟩ := results_ok (P := P) (fn := fn) g1 g2 (by rw [k5]; exact hrs)
            rcases hx with rfl | rfl <;> exact ⟨g4, v, hv1, v, c1, rfl, rfl, g1, g3, hv2, g5⟩
          · cases hm
        split at hh
        · rename_i env1 h2 hg; exact hfin _ _ _ (.inl rfl) hg hh
        · rename_i env1 h2 hg; exact hfin _ _ _ (.inr rfl) hg hh
        · cases hh
      · cases hh

theorem callW_dom {hk : Hooks} {go : Nat → Code → Env → Hp → Option (AEx × Env × Hp)} (hhk : DomOK hk) (hgo : BodyDom go) : DomOK (callW P hk go) := by
  intro f args h r h1 hh b hb
  unfold callW at hh
  split at hh
  · rename_i r' hr'
    injection hh with hh; subst hh
    exact hhk f args h r h1 hr' b hb
  · split at hh
    · cases hh
    · rename_i e hf
      split at hh
      · split at hh
        · rename_i env1 h2 hg
          split at hh
          · simp only [Option.some.injEq, Prod.mk.injEq] at hh; obtain ⟨rfl, rfl⟩ := hh
            exact hgo _ _ _ _ _ _ _ hg b hb
          · cases hh
        · rename_i env1 h2 hg
          split at hh
          · simp only [Option.some.injEq, Prod.mk.injEq] at hh; obtain ⟨rfl, rfl⟩ := hh
            exact hgo _ _ _ _ _ _ _ hg b hb
          · cases hh
        · cases hh
      · cases hh

theorem opStep_dom {call : FuncId → List AV → Hp → Option (AV × Hp)} (hdom : DomOK call) {ops : Array Oper} {nt base i : Nat} {env env1 : Env} {h h1 : Hp} (hh : opStep P call ops nt base i env h = some (env1, h1)) : ∀ b, h.m.get b ≠ none → h1.m.get b ≠ none := by
  intro b hb
  unfold opStep at hh
  split at hh
  · cases hh
  · split at hh
    · cases hh
    · split at hh
      · simp only [Option.some.injEq, Prod.mk.injEq] at hh; obtain ⟨rfl, rfl⟩ := hh; exact hb
      · cases hh
    · split at hh
      · rename_i v h2 hv
        split at hh
        · simp only [Option.some.injEq, Prod.mk.injEq] at hh; obtain ⟨rfl, rfl⟩ := hh
          exact opVal_dom hdom hv b hb
        · cases hh
      · cases hh
theorem seqOps_dom {call : FuncId → List AV → Hp → Option (AV × Hp)} (hdom : DomOK call) {ops : Array Oper} {nt base : Nat} : ∀ {l : List Nat} {env env1 : Env} {h h1 : Hp}, seqOps P call ops nt base l env h = some (env1, h1) → ∀ b, h.m.get b ≠ none → h1.m.get b ≠ none
  | [], env, env1, h, h1, hh, b, hb => by simp only [seqOps, Option.some.injEq, Prod.mk.injEq] at hh; obtain ⟨rfl, rfl⟩ := hh; exact hb
  | i :: l, env, env1, h, h1, hh, b, hb => by
    simp only [seqOps] at hh
    split at hh
    · rename_i e2 h2 hs
      exact seqOps_dom hdom hh b (opStep_dom hdom hs b hb)
    · cases hh
theorem drawStep_dom {call : FuncId → List AV → Hp → Option (AV × Hp)} (hdom : DomOK call) {ops : Array Oper} {B : List Nat} {nt base i : Nat} {env env1 : Env} {h h1 : Hp} {segs segs1 : List (Nat × Hp)} (hh : drawStep P call ops B nt base i env h segs = some (env1, h1, segs1)) : ∀ b, h.m.get b ≠ none → h1.m.get b ≠ none := by
  intro b hb
  unfold drawStep at hh
  split at hh
  · cases hh
  · split at hh
    · cases hh
    · split at hh
      · simp only [Option.some.injEq, Prod.mk.injEq] at hh; obtain ⟨rfl, rfl, rfl⟩ := hh; exact hb
      · cases hh
    · split at hh
      · cases hh
      · rename_i v h2 hv
        split at hh
        · cases hh
        · split at hh
          · simp only [Option.some.injEq, Prod.mk.injEq] at hh; obtain ⟨rfl, rfl, rfl⟩ := hh
            exact opVal_dom hdom hv b hb
          · split at hh
            · simp only [Option.some.injEq, Prod.mk.injEq] at hh; obtain ⟨rfl, rfl, rfl⟩ := hh
              exact opVal_dom hdom hv b hb
            · cases hh
theorem drawOps_dom {call : FuncId → List AV → Hp → Option (AV × Hp)} (hdom : DomOK call) {ops : Array Oper} {B : List Nat} {nt base : Nat} : ∀ {l : List Nat} {env env1 : Env} {h h1 : Hp} {segs : List (Nat × Hp)}, drawOps P call ops B nt base l env h segs = some (env1, h1) → ∀ b, h.m.get b ≠ none → h1.m.get b ≠ none
  | [], env, env1, h, h1, segs, hh, b, hb => by simp only [drawOps, Option.some.injEq, Prod.mk.injEq] at hh; obtain ⟨rfl, rfl⟩ := hh; exact hb
  | i :: l, env, env1, h, h1, segs, hh, b, hb => by
    simp only [drawOps] at hh
    split at hh
    · rename_i e2 h2 s2 hs
      exact drawOps_dom hdom hh b (drawStep_dom hdom hs b hb)
    · cases hh
theorem runRegion_dom {call : FuncId → List AV → Hp → Option (AV × Hp)} (hdom : DomOK call) {ops : Array Oper} {draw : Bool} {nt : Nat} {env env1 : Env} {h h1 : Hp} (hh : runRegion P call ops draw nt env h = some (env1, h1)) : ∀ b, h.m.get b ≠ none → h1.m.get b ≠ none := by
  intro b hb
  unfold runRegion at hh
  split at hh
  · exact seqOps_dom hdom hh b hb
  · split at hh
    · exact drawOps_dom hdom hh b hb
    · cases hh

theorem exec_dom {hk : Hooks} (hhd : DomOK hk) : ∀ n, BodyDom (exec P hk n)
  | 0 => fun nt code env h x env1 h1 hh => by simp [exec] at hh
  | n + 1 => by
    have ih := exec_dom hhd n
    intro nt code env h x env1 h1 hh b hb
    cases code <;> simp only [exec] at hh <;> try cases hh
    case region id ops draw =>
      split at hh
      · rename_i e2 h2 hg
        simp only [Option.some.injEq, Prod.mk.injEq] at hh; obtain ⟨rfl, rfl, rfl⟩ := hh
        exact runRegion_dom (callW_dom hhd ih) hg b hb
      · cases hh
    case skip => exact hb
    case seq x y =>
      split at hh
      · rename_i e2 h2 hg
        exact ih _ _ _ _ _ _ _ hh b (ih _ _ _ _ _ _ _ hg b hb)
      · exact ih _ _ _ _ _ _ _ hh b hb
    case cond c x y =>
      split at hh
      · exact ih _ _ _ _ _ _ _ hh b hb
      · exact ih _ _ _ _ _ _ _ hh b hb
      · cases hh
    case block id c =>
      split at hh
      · rename_i i e2 h2 hg
        split at hh
        · simp only [Option.some.injEq, Prod.mk.injEq] at hh; obtain ⟨rfl, rfl, rfl⟩ := hh
          exact ih _ _ _ _ _ _ _ hg b hb
        · simp only [Option.some.injEq, Prod.mk.injEq] at hh; obtain ⟨rfl, rfl, rfl⟩ := hh
          exact ih _ _ _ _ _ _ _ hg b hb
      · exact ih _ _ _ _ _ _ _ hh b hb
    case loop c =>
      split at hh
      · rename_i e2 h2 hg
        exact ih _ _ _ _ _ _ _ hh b (ih _ _ _ _ _ _ _ hg b hb)
      · exact ih _ _ _ _ _ _ _ hh b hb
    case exit id => exact hb
    case ret => exact hb
    case label l => exact hb

theorem callF_dom {hk : Hooks} (hhd : DomOK hk) (n : Nat) : DomOK (callF P hk n) := callW_dom hhd (exec_dom hhd n)

/-- A loop that has been run is some number of rounds. -/
theorem exec_ok (hm : P.follows .mixedOrders = true) {hk : Hooks} (hhk : CallOK P hk) (hhd : DomOK hk) : ∀ n, BodyOK P (exec P hk n) ∧
    ∀ (nt : Nat) (code : Code) (env : Env) (h : Hp) (x : AEx) (env1 : Env) (h1 : Hp), exec P hk n nt (.loop code) env h = some (x, env1, h1) → ∀ (c : Cx) (a : Act) (Q : Exit → Act → World → Prop), Rel c h → EnvR c nt env a.tmps →
    (∀ a1 c1, Rel c1 h1 → EnvR c1 nt env1 a1.tmps → Step c h c1 h1 → a1.defers = a.defers → (∀ b, c1.D b → c.D b ∨ h.nx ≤ b) → Q (exR x) a1 c1.w) → Code.rounds P code Q n a c.w
  | 0 => ⟨fun nt code env h x env1 h1 hh => by simp [exec] at hh, fun nt code env h x env1 h1 hh => by simp [exec] at hh⟩
  | n + 1 => by
    obtain ⟨ih, ihl⟩ := exec_ok hm hhk hhd n
    have hloop : ∀ (nt : Nat) (code : Code) (env : Env) (h : Hp) (x : AEx) (env1 : Env) (h1 : Hp), exec P hk (n + 1) nt (.loop code) env h = some (x, env1, h1) → ∀ (c : Cx) (a : Act) (Q : Exit → Act → World → Prop), Rel c h → EnvR c nt env a.tmps →
        (∀ a1 c1, Rel c1 h1 → EnvR c1 nt env1 a1.tmps → Step c h c1 h1 → a1.defers = a.defers → (∀ b, c1.D b → c.D b ∨ h.nx ≤ b) → Q (exR x) a1 c1.w) → Code.rounds P code Q (n + 1) a c.w := by
      intro nt code env h x env1 h1 hh c a Q hr he hQ
      simp only [exec] at hh
      rw [rounds_succ]
      split at hh
      · rename_i e2 h2 hg
        refine ih _ _ _ _ _ _ _ hg c a _ hr he (fun a1 c1 g1 g2 g3 g4 g5 => ?_)
        exact ihl _ _ _ _ _ _ _ hh c1 a1 _ g1 g2 (fun a2 c2 k1 k2 k3 k4 k5 => hQ a2 c2 k1 k2 (g3.trans k3) (k4.trans g4) (fun b hb => (k5 b hb).elim (fun e => g5 b e) (fun e => .inr (Nat.le_trans g3.nx e))))
      · rename_i hne
        refine ih _ _ _ _ _ _ _ hh c a _ hr he (fun a1 c1 g1 g2 g3 g4 g5 => ?_)
        have := hQ a1 c1 g1 g2 g3 g4 g5
        cases x with
        | normal => exact absurd hh (hne _ _)
        | exit i => exact this
        | ret => exact this
    refine ⟨?_, hloop⟩
    intro nt code env h x env1 h1 hh c a Q hr he hQ
    cases code
    case loop c =>
      exact wp_loop_rounds (n + 1) (hloop nt _ env h x env1 h1 hh _ a Q hr he hQ)
    all_goals simp only [exec] at hh
    all_goals try cases hh
    case region id ops draw =>
      split at hh
      · rename_i e2 h2 hg
        simp only [Option.some.injEq, Prod.mk.injEq] at hh; obtain ⟨rfl, rfl, rfl⟩ := hh
        exact region_ok hm (callW_ok hhk ih) (callW_dom hhd (exec_dom hhd n)) hr he hg hQ
      · cases hh
    case skip => exact wp_skip (hQ a c hr he (Step.refl c h) rfl (fun _ hb => .inl hb))
    case seq cx cy =>
      split at hh
      · rename_i e2 h2 hg
        refine wp_seq (ih _ _ _ _ _ _ _ hg c a _ hr he (fun a1 c1 g1 g2 g3 g4 g5 => ?_))
        exact ih _ _ _ _ _ _ _ hh c1 a1 _ g1 g2 (fun a2 c2 k1 k2 k3 k4 k5 => hQ a2 c2 k1 k2 (g3.trans k3) (k4.trans g4) (fun b hb => (k5 b hb).elim (fun e => g5 b e) (fun e => .inr (Nat.le_trans g3.nx e))))
      · rename_i hne
        refine wp_seq (ih _ _ _ _ _ _ _ hh c a _ hr he (fun a1 c1 g1 g2 g3 g4 g5 => ?_))
        have := hQ a1 c1 g1 g2 g3 g4 g5
        cases x with
        | normal => exact absurd hh (hne _ _)
        | exit i => exact this
        | ret => exact this
    case cond c0 x y =>
      have hev := he.eval c0
      split at hh
      · rename_i hc
        rw [hc] at hev
        simp only [VR] at hev
        exact wp_cond hev (ih _ _ _ _ _ _ _ hh c a _ hr he hQ)
      · rename_i hc
        rw [hc] at hev
        simp only [VR] at hev
        exact wp_cond hev (ih _ _ _ _ _ _ _ hh c a _ hr he hQ)
      · cases hh
    case block id c0 =>
      split at hh
      · rename_i i e2 h2 hg
        refine wp_block (ih _ _ _ _ _ _ _ hg c a _ hr he (fun a1 c1 g1 g2 g3 g4 g5 => ?_))
        simp only [exR, Exit.inBlock]
        split at hh
        · rename_i hi
          simp only [Option.some.injEq, Prod.mk.injEq] at hh; obtain ⟨rfl, rfl, rfl⟩ := hh
          rw [if_pos hi]
          exact hQ a1 c1 g1 g2 g3 g4 g5
        · rename_i hi
          simp only [Option.some.injEq, Prod.mk.injEq] at hh; obtain ⟨rfl, rfl, rfl⟩ := hh
          rw [if_neg hi]
          exact hQ a1 c1 g1 g2 g3 g4 g5
      · rename_i hne
        refine wp_block (ih _ _ _ _ _ _ _ hh c a _ hr he (fun a1 c1 g1 g2 g3 g4 g5 => ?_))
        have := hQ a1 c1 g1 g2 g3 g4 g5
        cases x with
        | normal => exact this
        | exit i => exact absurd hh (hne _ _ _)
        | ret => exact this
    case exit id => exact wp_exit (hQ a c hr he (Step.refl c h) rfl (fun _ hb => .inl hb))
    case ret => exact wp_ret (hQ a c hr he (Step.refl c h) rfl (fun _ hb => .inl hb))
    case label l => exact wp_label (hQ a c hr he (Step.refl c h) rfl (fun _ hb => .inl hb))

theorem callF_ok (hm : P.follows .mixedOrders = true) {hk : Hooks} (hhk : CallOK P hk) (hhd : DomOK hk) (n : Nat) : CallOK P (callF P hk n) := callW_ok hhk (exec_ok hm hhk hhd n).1
end
end Go.Vk
set_option linter.unusedSimpArgs false
set_option linter.unusedVariables false
namespace Go.Vk
section
variable {P : Program}
abbrev CallT := FuncId → List AV → Hp → Option (AV × Hp)
def CallLe (k k' : CallT) : Prop := ∀ f args h r, k f args h = some r → k' f args h = some r

theorem opVal_mono {k k' : CallT} (hk : CallLe k k') {base i : Nat} {env : Env} {h : Hp} {o : Oper} {r : AV × Hp} (hh : opVal P k base i env h o = some r) : opVal P k' base i env h o = some r := by
  unfold opVal at hh ⊢
  split at hh
  · rename_i he
    split at hh
    · rename_i f args hc
      split at hh
      · exact hk _ _ _ _ hh
      · exact hh
    · exact hh
  · exact hh
theorem opStep_mono {k k' : CallT} (hk : CallLe k k') {ops : Array Oper} {nt base i : Nat} {env : Env} {h : Hp} {r : Env × Hp} (hh : opStep P k ops nt base i env h = some r) : opStep P k' ops nt base i env h = some r := by
  unfold opStep at hh ⊢
  split at hh
  · cases hh
  · split at hh
    · cases hh
    · exact hh
    · split at hh
      · rename_i v h2 hv
        rw [opVal_mono hk hv]
        exact hh
      · cases hh
theorem seqOps_mono {k k' : CallT} (hk : CallLe k k') {ops : Array Oper} {nt base : Nat} : ∀ {l : List Nat} {env : Env} {h : Hp} {r : Env × Hp}, seqOps P k ops nt base l env h = some r → seqOps P k' ops nt base l env h = some r
  | [], env, h, r, hh => hh
  | i :: l, env, h, r, hh => by
    simp only [seqOps] at hh ⊢
    split at hh
    · rename_i e2 h2 hs
      rw [opStep_mono hk hs]
      exact seqOps_mono hk hh
    · cases hh
theorem drawStep_mono {k k' : CallT} (hk : CallLe k k') {ops : Array Oper} {B : List Nat} {nt base i : Nat} {env : Env} {h : Hp} {segs : List (Nat × Hp)} {r : Env × Hp × List (Nat × Hp)} (hh : drawStep P k ops B nt base i env h segs = some r) : drawStep P k' ops B nt base i env h segs = some r := by
  unfold drawStep at hh ⊢
  split at hh
  · cases hh
  · split at hh
    · cases hh
    · exact hh
    · split at hh
      · cases hh
      · rename_i v h2 hv
        rw [opVal_mono hk hv]
        exact hh
theorem drawOps_mono {k k' : CallT} (hk : CallLe k k') {ops : Array Oper} {B : List Nat} {nt base : Nat} : ∀ {l : List Nat} {env : Env} {h : Hp} {segs : List (Nat × Hp)} {r : Env × Hp}, drawOps P k ops B nt base l env h segs = some r → drawOps P k' ops B nt base l env h segs = some r
  | [], env, h, segs, r, hh => hh
  | i :: l, env, h, segs, r, hh => by
    simp only [drawOps] at hh ⊢
    split at hh
    · rename_i e2 h2 s2 hs
      rw [drawStep_mono hk hs]
      exact drawOps_mono hk hh
    · cases hh
theorem runRegion_mono {k k' : CallT} (hk : CallLe k k') {ops : Array Oper} {draw : Bool} {nt : Nat} {env : Env} {h : Hp} {r : Env × Hp} (hh : runRegion P k ops draw nt env h = some r) : runRegion P k' ops draw nt env h = some r := by
  unfold runRegion at hh ⊢
  split at hh
  · exact seqOps_mono hk hh
  · split at hh
    · rename_i hok
      exact drawOps_mono hk hh
    · cases hh

def GoLe (g g' : Nat → Code → Env → Hp → Option (AEx × Env × Hp)) : Prop := ∀ nt c env h r, g nt c env h = some r → g' nt c env h = some r
theorem callW_mono {hk hk' : Hooks} (hh : CallLe hk hk') (hd : ∀ f args h, hk f args h = none → hk' f args h = none) {g g' : Nat → Code → Env → Hp → Option (AEx × Env × Hp)} (hg : GoLe g g') : CallLe (callW P hk g) (callW P hk' g') := by
  intro f args h r hr
  unfold callW at hr ⊢
  split at hr
  · rename_i r' hr'
    rw [hh _ _ _ _ hr']
    exact hr
  · rename_i hn
    rw [hd _ _ _ hn]
    simp only
    split at hr
    · cases hr
    · rename_i e hf
      split at hr
      · rename_i hle
        rw [if_pos hle]
        split at hr
        · rename_i e1 h1 h2
          rw [hg _ _ _ _ _ h2]
          exact hr
        · rename_i e1 h1 h2
          rw [hg _ _ _ _ _ h2]
          exact hr
        · cases hr
      · cases hr

theorem exec_succ {hk : Hooks} : ∀ n, GoLe (exec P hk n) (exec P hk (n + 1))
  | 0 => fun nt c env h r hr => by simp [exec] at hr
  | n + 1 => by
    have ih := exec_succ (hk := hk) n
    have ihc : CallLe (callW P hk (exec P hk n)) (callW P hk (exec P hk (n + 1))) := callW_mono (fun _ _ _ _ h => h) (fun _ _ _ h => h) ih
    intro nt c env h r hr
    cases c
    case region id ops draw =>
      rw [exec] at hr ⊢
      split at hr
      · rename_i e1 h1 hg
        rw [runRegion_mono ihc hg]
        exact hr
      · cases hr
    case seq a b =>
      rw [exec] at hr ⊢
      split at hr
      · rename_i e1 h1 hg
        rw [ih _ _ _ _ _ hg]
        exact ih _ _ _ _ _ hr
      · rename_i hne
        rw [ih _ _ _ _ _ hr]
        obtain ⟨x, e1, h1⟩ := r
        cases x with
        | normal => exact absurd hr (hne _ _)
        | exit i => rfl
        | ret => rfl
    case cond c a b =>
      rw [exec] at hr ⊢
      split at hr
      · exact ih _ _ _ _ _ hr
      · exact ih _ _ _ _ _ hr
      · cases hr
    case block id c =>
      rw [exec] at hr ⊢
      split at hr
      · rename_i i e1 h1 hg
        rw [ih _ _ _ _ _ hg]
        exact hr
      · rename_i hne
        rw [ih _ _ _ _ _ hr]
        obtain ⟨x, e1, h1⟩ := r
        cases x with
        | normal => rfl
        | exit i => exact absurd hr (hne _ _ _)
        | ret => rfl
    case loop c =>
      rw [exec] at hr ⊢
      split at hr
      · rename_i e1 h1 hg
        rw [ih _ _ _ _ _ hg]
        exact ih _ _ _ _ _ hr
      · rename_i hne
        rw [ih _ _ _ _ _ hr]
        obtain ⟨x, e1, h1⟩ := r
        cases x with
        | normal => exact absurd hr (hne _ _)
        | exit i => rfl
        | ret => rfl
    all_goals simp only [exec] at hr ⊢
    all_goals exact hr
theorem exec_le {hk : Hooks} {n m : Nat} (h : n ≤ m) : GoLe (exec P hk n) (exec P hk m) := by
  induction h with
  | refl => exact fun _ _ _ _ _ h => h
  | step _ ih => exact fun nt c env h r hr => exec_succ _ _ _ _ _ _ (ih _ _ _ _ _ hr)
theorem callF_le {hk : Hooks} {n m : Nat} (h : n ≤ m) : CallLe (callF P hk n) (callF P hk m) := callW_mono (fun _ _ _ _ h => h) (fun _ _ _ h => h) (exec_le h)
theorem hk_le_callF {hk : Hooks} {n : Nat} : CallLe hk (callF P hk n) := fun f args h r hr => by unfold callF callW; rw [hr]

/-! ### runs, told by what they end in -/
def Ex (P : Program) (hk : Hooks) (nt : Nat) (c : Code) (env : Env) (h : Hp) (K : AEx → Env → Hp → Prop) : Prop := ∃ n x e1 h1, exec P hk n nt c env h = some (x, e1, h1) ∧ K x e1 h1
def ExF (P : Program) (hk : Hooks) (f : FuncId) (args : List AV) (h : Hp) (K : AV → Hp → Prop) : Prop := ∃ n r h1, callF P hk n f args h = some (r, h1) ∧ K r h1

variable {hk : Hooks} {nt : Nat} {env : Env} {h : Hp} {K : AEx → Env → Hp → Prop}
theorem Ex.mono {c : Code} {K' : AEx → Env → Hp → Prop} (H : Ex P hk nt c env h K) (hK : ∀ x e h, K x e h → K' x e h) : Ex P hk nt c env h K' := by
  obtain ⟨n, x, e1, h1, hr, hk⟩ := H
  exact ⟨n, x, e1, h1, hr, hK _ _ _ hk⟩
theorem Ex.skip (H : K .normal env h) : Ex P hk nt .skip env h K := ⟨1, _, _, _, rfl, H⟩
theorem Ex.label {l : Nat} (H : K .normal env h) : Ex P hk nt (.label l) env h K := ⟨1, _, _, _, rfl, H⟩
theorem Ex.exit {i : Nat} (H : K (.exit i) env h) : Ex P hk nt (.exit i) env h K := ⟨1, _, _, _, rfl, H⟩
theorem Ex.ret (H : K .ret env h) : Ex P hk nt .ret env h K := ⟨1, _, _, _, rfl, H⟩
def thenK (K1 : Env → Hp → Prop) (K : AEx → Env → Hp → Prop) : AEx → Env → Hp → Prop
  | .normal, e, h => K1 e h
  | x, e, h => K x e h
theorem Ex.seq {a b : Code} (H : Ex P hk nt a env h (thenK (fun e h => Ex P hk nt b e h K) K)) : Ex P hk nt (.seq a b) env h K := by
  obtain ⟨n, x, e1, h1, hr, hK⟩ := H
  cases x with
  | normal =>
    obtain ⟨m, y, e2, h2, hr2, hK2⟩ := hK
    refine ⟨max n m + 1, y, e2, h2, ?_, hK2⟩
    simp only [exec]
    rw [exec_le (Nat.le_max_left n m) _ _ _ _ _ hr]
    exact exec_le (Nat.le_max_right n m) _ _ _ _ _ hr2
  | exit i => exact ⟨n + 1, _, e1, h1, by simp only [exec]; rw [hr], hK⟩
  | ret => exact ⟨n + 1, _, e1, h1, by simp only [exec]; rw [hr], hK⟩
theorem Ex.cond_true {c : Operand} {a b : Code} (hc : evalA env c = .bool true) (H : Ex P hk nt a env h K) : Ex P hk nt (.cond c a b) env h K := by
  obtain ⟨n, x, e1, h1, hr, hK⟩ := H
  exact ⟨n + 1, x, e1, h1, by simp only [exec]; rw [hc]; exact hr, hK⟩
theorem Ex.cond_false {c : Operand} {a b : Code} (hc : evalA env c = .bool false) (H : Ex P hk nt b env h K) : Ex P hk nt (.cond c a b) env h K := by
  obtain ⟨n, x, e1, h1, hr, hK⟩ := H
  exact ⟨n + 1, x, e1, h1, by simp only [exec]; rw [hc]; exact hr, hK⟩
theorem Ex.cond {c : Operand} {a b : Code} {t : Bool} (hc : evalA env c = .bool t) (Ht : t = true → Ex P hk nt a env h K) (Hf : t = false → Ex P hk nt b env h K) : Ex P hk nt (.cond c a b) env h K := by
  cases t with
  | true => exact Ex.cond_true hc (Ht rfl)
  | false => exact Ex.cond_false hc (Hf rfl)
def blockK (id : Nat) (K : AEx → Env → Hp → Prop) : AEx → Env → Hp → Prop
  | .exit i, e, h => if i = id then K .normal e h else K (.exit i) e h
  | x, e, h => K x e h
theorem Ex.block {id : Nat} {c : Code} (H : Ex P hk nt c env h (blockK id K)) : Ex P hk nt (.block id c) env h K := by
  obtain ⟨n, x, e1, h1, hr, hK⟩ := H
  cases x with
  | normal => exact ⟨n + 1, _, e1, h1, by simp only [exec]; rw [hr], hK⟩
  | exit i =>
    by_cases hi : i = id
    · simp only [blockK, if_pos hi] at hK
      exact ⟨n + 1, _, e1, h1, by simp only [exec]; rw [hr]; simp only [if_pos hi], hK⟩
    · simp only [blockK, if_neg hi] at hK
      exact ⟨n + 1, _, e1, h1, by simp only [exec]; rw [hr]; simp only [if_neg hi], hK⟩
  | ret => exact ⟨n + 1, _, e1, h1, by simp only [exec]; rw [hr], hK⟩
/-- A loop: an invariant, a measure. -/
theorem Ex.loop {c : Code} (I : Nat → Env → Hp → Prop) (round : ∀ k env h, I k env h → Ex P hk nt c env h (thenK (fun e h => ∃ j, j < k ∧ I j e h) K)) : ∀ (k : Nat) (env : Env) (h : Hp), I k env h → Ex P hk nt (.loop c) env h K := by
  intro k
  induction k using Nat.strongRecOn with
  | _ k ih =>
    intro env h hI
    obtain ⟨n, x, e1, h1, hr, hK⟩ := round k env h hI
    cases x with
    | normal =>
      obtain ⟨j, hj, hI1⟩ := hK
      obtain ⟨m, y, e2, h2, hr2, hK2⟩ := ih j hj e1 h1 hI1
      refine ⟨max n m + 1, y, e2, h2, ?_, hK2⟩
      simp only [exec]
      rw [exec_le (Nat.le_max_left n m) _ _ _ _ _ hr]
      exact exec_le (Nat.le_max_right n m) _ _ _ _ _ hr2
    | exit i => exact ⟨n + 1, _, e1, h1, by simp only [exec]; rw [hr], hK⟩
    | ret => exact ⟨n + 1, _, e1, h1, by simp only [exec]; rw [hr], hK⟩
theorem Ex.region {id : Nat} {ops : Array Oper} {draw : Bool} {e1 : Env} {h1 : Hp} (hr : runRegion P hk ops draw nt env h = some (e1, h1)) (H : K .normal e1 h1) : Ex P hk nt (.region id ops draw) env h K :=
  ⟨1, .normal, e1, h1, by
    rw [exec]
    rw [runRegion_mono (k' := callW P hk (exec P hk 0)) (fun f args h r hr => by unfold callW; rw [hr]) hr], H⟩
theorem ExF.body {f : FuncId} {args : List AV} {K : AV → Hp → Prop} {e : FnE} (hf : fnE P f = some e) (hn : hk f args h = none) (hl : args.length ≤ e.nt)
    (H : Ex P hk e.nt e.body (initEnv 0 args) h (fun x e1 h1 => (match x with | .exit _ => False | _ => True) ∧ ∃ vs, resultsA P e1 h1 e.results = some vs ∧ K (oneOrTup vs) h1)) : ExF P hk f args h K := by
  obtain ⟨n, x, e1, h1, hr, hx, vs, hvs, hK⟩ := H
  refine ⟨n, oneOrTup vs, h1, ?_, hK⟩
  unfold callF callW
  rw [hn]
  simp only
  rw [hf]
  simp only
  rw [if_pos hl, hr]
  cases x with
  | normal => simp only; rw [hvs]
  | exit i => exact hx.elim
  | ret => simp only; rw [hvs]
end
end Go.Vk
set_option linter.unusedSimpArgs false
set_option linter.unusedVariables false
namespace Go.Vk

def Hp.sub (h h' : Hp) : Prop := ∀ b x, h.m.get b = some x → h'.m.get b = some x

/-- (c2, h2): (c, h), and some opened blocks that never turn. -/
structure Opens (c : Cx) (h : Hp) (c2 : Cx) (h2 : Hp) : Prop where
  le : c.le c2
  w : c2.w = c.w
  z : ∀ k, c2.Z k → c.Z k
  sub : h.sub h2
  nx : h.nx ≤ h2.nx
  ro : ∀ b x, h2.m.get b = some x → h.m.get b = none → x.rw = false
  rel : Rel c2 h2
  d : ∀ b, c2.D b → c.D b ∨ h.nx ≤ b
  old : ∀ b, b < h.nx → h2.m.get b = h.m.get b
  inz : ∀ b x, h2.m.get b = some x → h.m.get b = none → c2.Z (c2.rho b).1

theorem Opens.refl {c : Cx} {h : Hp} (hr : Rel c h) : Opens c h c h :=
  ⟨Cx.le.refl c, rfl, fun _ h => h, fun _ _ h => h, Nat.le_refl _, (fun b x h1 h2 => (by rw [h1] at h2; cases h2)), hr, fun _ h => .inl h, fun _ _ => rfl, (fun b x h1 h2 => (by rw [h1] at h2; cases h2))⟩
theorem Opens.trans {c c1 c2 : Cx} {h h1 h2 : Hp} (a : Opens c h c1 h1) (b : Opens c1 h1 c2 h2) : Opens c h c2 h2 := by
  refine ⟨a.le.trans b.le, b.w.trans a.w, fun k hk => a.z k (b.z k hk), fun i x hi => b.sub i x (a.sub i x hi), Nat.le_trans a.nx b.nx, ?_, b.rel, ?_, fun i hi => (b.old i (Nat.lt_of_lt_of_le hi a.nx)).trans (a.old i hi), ?_⟩
  · intro i x hi hn
    cases h0 : h1.m.get i with
    | none => exact b.ro i x hi h0
    | some y =>
      have := b.sub i y h0
      rw [hi] at this; injection this with this; subst this
      exact a.ro i x h0 hn
  · intro i hi
    rcases b.d i hi with h0 | h0
    · exact a.d i h0
    · exact .inr (Nat.le_trans a.nx h0)
  · intro i x hi hn
    cases h0 : h1.m.get i with
    | none => exact b.inz i x hi h0
    | some y =>
      have hd := a.rel.dom i y h0
      rw [(b.le.d i hd).2]
      exact (b.le.z _ (a.inz i y h0 hn)).1

mutual
/-- What can be told in c's own words. -/
theorem VR.shrink {c c' c1 : Cx} (hd : ∀ b, c.D b → c1.D b ∧ c1.rho b = c'.rho b) (hw : c1.w = c'.w) (hz : ∀ k, c'.Z k → c1.Z k) : ∀ (x : AV) (v v' : Value), VR c x v → VR c' x v' → VR c1 x v'
  | .undef, _, _, _, _ => by simp only [VR]
  | .bool b, v, v', _, h => by simp only [VR] at h ⊢; exact h
  | .int k n, v, v', _, h => by simp only [VR] at h ⊢; exact h
  | .str l, v, v', _, h => by simp only [VR] at h ⊢; exact h
  | .nilp, v, v', _, h => by simp only [VR] at h ⊢; exact h
  | .ptr b off, v, v', h0, h => by
    simp only [VR] at h0 h ⊢
    rw [(hd b h0.1).2]
    exact ⟨(hd b h0.1).1, h.2⟩
  | .nils, v, v', _, h => by simp only [VR] at h ⊢; exact h
  | .slice b off len cap ex sz, v, v', h0, h => by
    simp only [VR] at h0 h ⊢
    rw [(hd b h0.1).2, hw]
    exact ⟨(hd b h0.1).1, h.2⟩
  | .empty, v, v', _, h => by simp only [VR] at h ⊢; exact h
  | .nilf, v, v', _, h => by simp only [VR] at h ⊢; exact h
  | .nili, v, v', _, h => by simp only [VR] at h ⊢; exact h
  | .nilm, v, v', _, h => by simp only [VR] at h ⊢; exact h
  | .iface t x, v, v', h0, h => by
    simp only [VR] at h0 h ⊢
    obtain ⟨y0, _, h2⟩ := h0
    obtain ⟨y, e, h3⟩ := h
    exact ⟨y, e, VR.shrink hd hw hz x _ _ h2 h3⟩
  | .func f caps, v, v', h0, h => by
    simp only [VR] at h0 h ⊢
    obtain ⟨y0, _, h2⟩ := h0
    obtain ⟨y, e, h3⟩ := h
    exact ⟨y, e, VRL.shrink hd hw hz caps _ _ h2 h3⟩
  | .map b, v, v', h0, h => by
    simp only [VR] at h0 h ⊢
    rw [(hd b h0.1).2]
    exact ⟨(hd b h0.1).1, h.2⟩
  | .agg xs, v, v', h0, h => by
    simp only [VR] at h0 h ⊢
    obtain ⟨y0, _, h2⟩ := h0
    obtain ⟨y, e, h3⟩ := h
    exact ⟨y, e, VRL.shrink hd hw hz xs _ _ h2 h3⟩
  | .tup xs, v, v', h0, h => by
    simp only [VR] at h0 h ⊢
    obtain ⟨y0, _, h2⟩ := h0
    obtain ⟨y, e, h3⟩ := h
    exact ⟨y, e, VRL.shrink hd hw hz xs _ _ h2 h3⟩
  | .opq o, v, v', _, h => by
    simp only [VR] at h ⊢
    exact RO.mono (fun k hk => ⟨hz k hk, by rw [hw]⟩) h
theorem VRL.shrink {c c' c1 : Cx} (hd : ∀ b, c.D b → c1.D b ∧ c1.rho b = c'.rho b) (hw : c1.w = c'.w) (hz : ∀ k, c'.Z k → c1.Z k) : ∀ (xs : List AV) (vs vs' : List Value), VRL c xs vs → VRL c' xs vs' → VRL c1 xs vs'
  | [], vs, vs', _, h => by simp only [VRL] at h ⊢; exact h
  | x :: xs, vs, vs', h0, h => by
    simp only [VRL] at h0 h ⊢
    obtain ⟨y0, ys0, _, h1, h2⟩ := h0
    obtain ⟨y, ys, e, h3, h4⟩ := h
    exact ⟨y, ys, e, VR.shrink hd hw hz x _ _ h1 h3, VRL.shrink hd hw hz xs _ _ h2 h4⟩
end

theorem ER.shrink {c c' c1 : Cx} (hd : ∀ b, c.D b → c1.D b ∧ c1.rho b = c'.rho b) (hw : c1.w = c'.w) (hz : ∀ k, c'.Z k → c1.Z k) : ∀ {es : List (AV × AV × Nat)} {ents ents' : List MapEntry}, ER c es ents → ER c' es ents' → ER c1 es ents'
  | [], _, _, _, h => h
  | (k, v, t) :: r, ents, ents', h0, h => by
    simp only [ER] at h0 h ⊢
    obtain ⟨e0, es0, _, a1, a2, _, a3⟩ := h0
    obtain ⟨e, es, e1, b1, b2, b3, b4⟩ := h
    exact ⟨e, es, e1, VR.shrink hd hw hz _ _ _ a1 b1, VR.shrink hd hw hz _ _ _ a2 b2, b3, ER.shrink hd hw hz a3 b4⟩

/-- What the blocks of S hold never turns any more; nothing else is told of them. -/
def Cx.close (c c' : Cx) (S : List Nat) : Cx := ⟨c'.w, fun k => c'.Z k ∨ ∃ b ∈ S, (c'.rho b).1 = k, c.rho, c.D⟩

theorem closing {c c2 c' : Cx} {h h2 h' : Hp} (S : List Nat) (hr : Rel c h) (ho : Opens c h c2 h2) (hr' : Rel c' h') (hs : Step c2 h2 c' h') (hsub : h.sub h')
    (hS : ∀ b ∈ S, h.m.get b = none ∧ ∃ x, h'.m.get b = some x ∧ x.rw = true) : Rel (c.close c' S) h ∧ Step c h (c.close c' S) h := by
  have hle : c.le c' := ho.le.trans hs.le
  have hd : ∀ b, c.D b → (c.close c' S).D b ∧ (c.close c' S).rho b = c'.rho b := fun b hb => ⟨hb, ((hle.d b hb).2).symm⟩
  have hz : ∀ k, c'.Z k → (c.close c' S).Z k := fun k hk => .inl hk
  have hrho : ∀ b, c.D b → c'.rho b = c.rho b := fun b hb => (hle.d b hb).2
  refine ⟨⟨hr.dom, hr.lt, ?_, hr.inj, ?_, ?_⟩, ⟨⟨fun b hb => ⟨hb, rfl⟩, ?_, ?_⟩, ?_, ?_, ?_, ?_, ?_, fun b x hb hl => .inl ⟨b, x, hb, hl, id, rfl⟩, Nat.le_refl _, ?_⟩⟩
  · intro b k hb
    have h0 := hr.blk b k hb
    have h1 := hr'.blk b k (hsub b k hb)
    have hb' := hrho b (hr.dom b k hb)
    cases k with
    | row cells ro =>
      obtain ⟨cs0, e0, fr0, a1, a2, a3⟩ := h0
      obtain ⟨cs, e, fr, b1, b2, b3⟩ := h1
      rw [hb'] at b1 b2
      refine ⟨cs, e, fr, b1, fun i x hx => ?_, b3⟩
      obtain ⟨v0, _, hv0⟩ := a2 i x hx
      obtain ⟨v, hv, hvr⟩ := b2 i x hx
      exact ⟨v, hv, VR.shrink hd rfl hz x _ _ hv0 hvr⟩
    | map es clock =>
      obtain ⟨a0, ents0, a1, a2⟩ := h0
      obtain ⟨b0, ents, b1, b2⟩ := h1
      rw [hb'] at b0 b1
      exact ⟨b0, ents, b1, ER.shrink hd rfl hz a2 b2⟩
    | iter s pos =>
      obtain ⟨b0, st, b1, b2⟩ := h1
      rw [hb'] at b0 b1
      exact ⟨b0, st, b1, b2⟩
    | trow t cells ex ro =>
      obtain ⟨a0, cs0, fr0, a1, a2, a3, a4⟩ := h0
      obtain ⟨b0, cs, fr, b1, b2, b3, b4⟩ := h1
      rw [hb'] at b0 b1 b2
      refine ⟨b0, cs, fr, b1, fun i x hx => ?_, b3, b4⟩
      obtain ⟨v0, _, hv0⟩ := a2 i x hx
      obtain ⟨v, hv, hvr⟩ := b2 i x hx
      exact ⟨v, hv, VR.shrink hd rfl hz x _ _ hv0 hvr⟩
    | dead => trivial
  · rintro k (hk | ⟨b, hb, rfl⟩)
    · exact hr'.zone k hk
    · obtain ⟨_, x, hx, hrw⟩ := hS b hb
      exact (hr'.blk b x hx).lt (Blk.live_of_rw hrw)
  · rintro b k hb hw (hk | ⟨b', hb', he⟩)
    · have := hr'.out b k (hsub b k hb) hw
      rw [hrho b (hr.dom b k hb)] at this
      exact this hk
    · obtain ⟨hn, x, hx, hrw⟩ := hS b' hb'
      have hne : b' ≠ b := fun e => by subst e; rw [hb] at hn; cases hn
      refine hr'.inj b' b x k hx (hsub b k hb) hne (Blk.live_of_rw hrw) hw ?_
      rw [he, hrho b (hr.dom b k hb)]; rfl
  · intro k hk
    exact ⟨.inl (hle.z k hk).1, (hle.z k hk).2⟩
  · exact hle.rooms
  · show c'.w.os = c.w.os
    rw [hs.os, ho.w]
  · show c'.w.tape = c.w.tape
    rw [hs.tape, ho.w]
  · show c'.w.output = c.w.output
    rw [hs.output, ho.w]
  · show c.w.heap.size ≤ c'.w.heap.size
    have := hs.size; rw [ho.w] at this; exact this
  · intro k hk hno
    show c'.w.heap[k]? = c.w.heap[k]?
    rw [← ho.w]
    refine hs.same k (by rw [ho.w]; exact hk) ?_
    rintro ⟨b, x, hb, hw, he⟩
    cases h0 : h.m.get b with
    | none => have := ho.ro b x hb h0; rw [hw] at this; cases this
    | some y =>
      have h1 := ho.sub b y h0
      rw [hb] at h1; injection h1 with h1; subst h1
      exact hno ⟨b, x, h0, hw, by rw [← (ho.le.d b (hr.dom b x h0)).2]; exact he⟩
  · rintro k (hk | ⟨b, hb, he⟩)
    · rcases hs.zn k hk with h0 | h0
      · exact .inl (ho.z k h0)
      · exact .inr (by rw [← ho.w]; exact h0)
    · obtain ⟨hn, x, hx, hrw⟩ := hS b hb
      rcases hs.lives b x hx (Blk.live_of_rw hrw) with ⟨b0, x0, h0, hl0, hrw0, he0⟩ | hge
      · cases h1 : h.m.get b0 with
        | none => have := ho.ro b0 x0 h0 h1; rw [hrw0 hrw] at this; cases this
        | some y =>
          have h2' := ho.sub b0 y h1
          rw [h0] at h2'; injection h2' with h2'; subst h2'
          have hne : b0 ≠ b := fun e => by subst e; rw [h1] at hn; cases hn
          refine absurd ?_ (hr'.inj b0 b x0 x (hsub b0 x0 h1) hx hne hl0 hrw)
          rw [hrho b0 (hr.dom b0 x0 h1), ← he0, (ho.le.d b0 (hr.dom b0 x0 h1)).2]
      · exact .inr (by rw [← he, ← ho.w]; exact hge)
end Go.Vk
set_option linter.unusedSimpArgs false
set_option linter.unusedVariables false
namespace Go.Vk

theorem Rel.none_nx {c : Cx} {h : Hp} (hr : Rel c h) : h.m.get h.nx = none := by
  cases hg : h.m.get h.nx with
  | none => rfl
  | some x => exact absurd (hr.lt _ (hr.dom _ _ hg)) (Nat.lt_irrefl _)

/-- One block that never turns, opened. -/
theorem open_row {c : Cx} {h : Hp} (hr : Rel c h) {k o : Nat} {cs : Array Value} {e : TypeId} {fr : Nat × Nat} (hz : c.Z k) (hk : c.w.heap[k]? = some (.cells cs e fr)) {xs : List AV}
    (hx : ∀ (i : Nat) (x : AV), xs[i]? = some x → ∃ v, cs[o + i]? = some v ∧ VR c x v) :
    ∃ c2 : Cx, Opens c h c2 ⟨h.m.set h.nx (.row xs true), h.nx + 1⟩ ∧ c2.D h.nx ∧ c2.rho h.nx = (k, o) := by
  have hnone := hr.none_nx
  have hnD : ¬ c.D h.nx := fun hd => Nat.lt_irrefl _ (hr.lt _ hd)
  let c2 : Cx := { c with D := fun b => c.D b ∨ b = h.nx, rho := fun b => if b = h.nx then (k, o) else c.rho b }
  have hle : c.le c2 := ⟨fun b hb => ⟨.inl hb, by
      have : b ≠ h.nx := fun e => hnD (e ▸ hb)
      simp [c2, this]⟩, fun k hk => ⟨hk, rfl⟩, fun k cs e fr hk => ⟨cs, fr, hk, rfl⟩⟩
  have hge : ∀ b x, (h.m.set h.nx (.row xs true)).get b = some x → (b = h.nx ∧ x = .row xs true) ∨ (b ≠ h.nx ∧ h.m.get b = some x) := fun b x hb => by
    rw [PT.get_set] at hb
    split at hb
    · rename_i e; injection hb with hb; exact .inl ⟨e, hb.symm⟩
    · rename_i e; exact .inr ⟨e, hb⟩
  have hrhon : c2.rho h.nx = (k, o) := by simp [c2]
  have hrho : ∀ b, b ≠ h.nx → c2.rho b = c.rho b := fun b hb => by simp [c2, hb]
  refine ⟨c2, ⟨hle, rfl, fun _ h => h, ?_, Nat.le_succ _, ?_, ⟨?_, ?_, ?_, ?_, hr.zone, ?_⟩, ?_, ?_, ?_⟩, .inr rfl, hrhon⟩
  · intro b x hb
    have hne : b ≠ h.nx := fun e => by subst e; rw [hnone] at hb; cases hb
    simp only [PT.get_set, if_neg hne]; exact hb
  · intro b x hb hn
    rcases hge b x hb with ⟨_, rfl⟩ | ⟨_, h0⟩
    · rfl
    · rw [hn] at h0; cases h0
  · intro b x hb
    rcases hge b x hb with ⟨rfl, _⟩ | ⟨_, h0⟩
    · exact .inr rfl
    · exact .inl (hr.dom b x h0)
  · rintro b (hb | rfl)
    · exact Nat.lt_succ_of_lt (hr.lt b hb)
    · exact Nat.lt_succ_self _
  · intro b x hb
    rcases hge b x hb with ⟨rfl, rfl⟩ | ⟨hne, h0⟩
    · refine ⟨cs, e, fr, by rw [hrhon]; exact hk, fun i x hx' => ?_, fun h => by cases h⟩
      obtain ⟨v, hv, hvr⟩ := hx i x hx'
      exact ⟨v, by rw [hrhon]; exact hv, VR.mono hle _ _ hvr⟩
    · exact BR.mono hle (hr.dom b x h0) rfl (hr.blk b x h0)
  · intro b b' x x' hb hb' hne hl hw
    rcases hge b x hb with ⟨rfl, rfl⟩ | ⟨hn, h0⟩ <;> rcases hge b' x' hb' with ⟨rfl, rfl⟩ | ⟨hn', h0'⟩
    · exact absurd rfl hne
    · rw [hrhon, hrho b' hn']
      intro he
      exact hr.out b' x' h0' hw (he ▸ hz)
    · cases hw
    · rw [hrho b hn, hrho b' hn']
      exact hr.inj b b' x x' h0 h0' hne hl hw
  · intro b x hb hw
    rcases hge b x hb with ⟨rfl, rfl⟩ | ⟨hn, h0⟩
    · cases hw
    · rw [hrho b hn]; exact hr.out b x h0 hw
  · rintro b (hb | rfl)
    · exact .inl hb
    · exact .inr (Nat.le_refl _)
  · intro b hb
    have : b ≠ h.nx := by omega
    simp only [PT.get_set, if_neg this]
  · intro b x hb hn
    rcases hge b x hb with ⟨rfl, rfl⟩ | ⟨hne, h0⟩
    · rw [hrhon]; exact hz
    · rw [hn] at h0; cases h0

def Hp.fr (h : Hp) : Prop := ∀ b, h.nx ≤ b → h.m.get b = none
theorem Rel.fr {c : Cx} {h : Hp} (hr : Rel c h) : h.fr := fun b hb => by
  cases hg : h.m.get b with
  | none => rfl
  | some x => have := hr.lt _ (hr.dom _ _ hg); omega
def u32s (ds : List Nat) : List AV := ds.map fun (d : Nat) => AV.int .u32 (d : Int)
/-- Digits, where they lie: in the block of the list. -/
def DigAt (h : Hp) (sl : AV) (ds bs : List Nat) : Prop := (ds = [] ∧ bs = [] ∧ (sl = .nils ∨ sl = .empty)) ∨
  ∃ rb off cap ex, bs = [rb] ∧ sl = .slice rb off ds.length cap ex 1 ∧ getCells h rb off ds.length = some (u32s ds) ∧ ds.length ≤ cap
/-- A number, where it lies. -/
def NatAt (h : Hp) (v : AV) (ds bs : List Nat) : Prop := ∃ b o cells ro sl bs', bs = b :: bs' ∧ v = .ptr b o ∧ h.m.get b = some (.row cells ro) ∧ cells[o]? = some sl ∧ DigAt h sl ds bs'

theorem open_nat {c : Cx} {h : Hp} (hr : Rel c h) {n : Nat} {v : Value} (hv : VR c (.opq (.nat n)) v) :
    ∃ c2 h2 a ds bs, Opens c h c2 h2 ∧ VR c2 a v ∧ NatAt h2 a ds bs ∧ digOk ds ∧ digVal ds = n ∧ ∀ b ∈ bs, h2.m.get b ≠ none ∧ h.m.get b = none := by
  simp only [VR, RO] at hv
  obtain ⟨k, cs, e, fr, sl, o, rfl, hz, hk, hsl, ds, h1, h2, h3⟩ := hv
  rcases h3 with ⟨rfl, h3⟩ | ⟨kd, off, cp, csd, ed, frd, rfl, h4, hzd, hkd, h5, h6⟩
  · have hx : ∃ x : AV, (x = .nils ∨ x = .empty) ∧ VR c x sl := by
      rcases h3 with rfl | ⟨a, m, rfl⟩
      · exact ⟨.nils, .inl rfl, by simp [VR]⟩
      · exact ⟨.empty, .inr rfl, by simp only [VR]; exact ⟨a, m, rfl⟩⟩
    obtain ⟨x, hx1, hx2⟩ := hx
    obtain ⟨c2, g1, g2, g3⟩ := open_row hr (o := o) (xs := [x]) hz hk (fun i y hy => by
      cases i with
      | zero => simp at hy; subst hy; exact ⟨sl, by simpa using hsl, hx2⟩
      | succ i => simp at hy)
    refine ⟨c2, _, .ptr h.nx 0, [], [h.nx], g1, by simp only [VR]; exact ⟨g2, by rw [g3]; simp⟩, ⟨h.nx, 0, [x], true, x, [], rfl, rfl, by simp [PT.get_set], rfl, .inl ⟨rfl, rfl, hx1⟩⟩, h1, h2, ?_⟩
    intro b hb
    simp only [List.mem_singleton] at hb; subst hb
    exact ⟨by simp [PT.get_set], hr.none_nx⟩
  · obtain ⟨c1, f1, f2, f3⟩ := open_row hr (o := off) (xs := u32s ds) hzd hkd (fun i y hy => by
      unfold u32s at hy
      rw [List.getElem?_map] at hy
      cases hd : ds[i]? with
      | none => rw [hd] at hy; cases hy
      | some d =>
        rw [hd] at hy
        simp only [Option.map_some, Option.some.injEq] at hy; subst hy
        exact ⟨_, h6 i d hd, by simp [VR]⟩)
    have hvs : VR c1 (.slice h.nx 0 ds.length ds.length false 1) (.slice (some ⟨kd, off, none⟩) ds.length cp) := by
      simp only [VR]
      refine ⟨f2, cp, by rw [f3]; simp, h4, h4, by simp, csd, ed, frd, ?_, ?_⟩
      · rw [f3, f1.w]; exact hkd
      · rw [f3]; simp; omega
    obtain ⟨c2, g1, g2, g3⟩ := open_row f1.rel (o := o) (xs := [.slice h.nx 0 ds.length ds.length false 1]) (k := k) (f1.le.z k hz).1 (by rw [f1.w]; exact hk) (fun i y hy => by
      cases i with
      | zero => simp at hy; subst hy; exact ⟨_, by simpa using hsl, hvs⟩
      | succ i => simp at hy)
    simp only at g2 g3
    have hne : h.nx ≠ h.nx + 1 := by omega
    refine ⟨c2, _, .ptr (h.nx + 1) 0, ds, [h.nx + 1, h.nx], f1.trans g1, by simp only [VR]; exact ⟨g2, by rw [g3]; simp⟩,
      ⟨h.nx + 1, 0, _, true, _, [h.nx], rfl, rfl, by simp [PT.get_set]; exact rfl, rfl, .inr ⟨h.nx, 0, ds.length, false, rfl, rfl, ?_, Nat.le_refl _⟩⟩, h1, h2, ?_⟩
    · have ht : (u32s ds).take ds.length = u32s ds := by rw [List.take_of_length_le]; simp [u32s]
      simp [getCells, PT.get_set, hne]
      refine ⟨by simp [u32s], ht⟩
    · intro b hb
      simp only [List.mem_cons, List.not_mem_nil, or_false] at hb
      rcases hb with rfl | rfl
      · refine ⟨by simp [PT.get_set], ?_⟩
        have := f1.rel.none_nx
        simp only [PT.get_set, if_neg hne.symm] at this
        exact this
      · exact ⟨by simp [PT.get_set, hne], hr.none_nx⟩

theorem close_nat {c c2 c' : Cx} {h h2 h' : Hp} {S : List Nat} (ho : Opens c h c2 h2) (hr' : Rel c' h') (hs : Step c2 h2 c' h') {v : AV} {x : Value} (hv : VR c' v x) {ds bs : List Nat} (hn : NatAt h' v ds bs) (hd : digOk ds)
    (hb : ∀ b ∈ bs, b ∈ S ∨ (h2.m.get b ≠ none ∧ h.m.get b = none)) : VR (c.close c' S) (.opq (.nat (digVal ds))) x := by
  have hz : ∀ b ∈ bs, (c.close c' S).Z (c'.rho b).1 := fun b hm => by
    rcases hb b hm with h0 | ⟨h0, h1⟩
    · exact .inr ⟨b, h0, rfl⟩
    · cases hg : h2.m.get b with
      | none => exact absurd hg h0
      | some y =>
        refine .inl ?_
        rw [(hs.le.d b (ho.rel.dom b y hg)).2]
        exact (hs.le.z _ (ho.inz b y hg h1)).1
  obtain ⟨b, o, cells, ro, sl, bs', rfl, rfl, hg, hsl, hda⟩ := hn
  simp only [VR] at hv
  obtain ⟨cs, e, fr, k1, k2, _⟩ := hr'.blk b _ hg
  obtain ⟨y, hy, hyr⟩ := k2 o sl hsl
  simp only [VR, RO]
  refine ⟨(c'.rho b).1, cs, e, fr, y, (c'.rho b).2 + o, hv.2, hz b (List.mem_cons_self ..), k1, hy, ds, hd, rfl, ?_⟩
  rcases hda with ⟨rfl, rfl, rfl | rfl⟩ | ⟨rb, off, cap, ex, rfl, rfl, hgc, _⟩
  · simp only [VR] at hyr; exact .inl ⟨rfl, .inl hyr⟩
  · simp only [VR] at hyr; exact .inl ⟨rfl, .inr hyr⟩
  · simp only [VR] at hyr
    obtain ⟨hD, m, rfl, hm1, hm2, hm3, csd, ed, frd, hkd, hsz⟩ := hyr
    cases ds with
    | nil => exact .inl ⟨rfl, .inr ⟨_, _, rfl⟩⟩
    | cons d0 dr =>
      refine .inr ⟨(c'.rho rb).1, (c'.rho rb).2 + off, m, csd, ed, frd, rfl, hm1, hz rb (by simp), hkd, by omega, fun i d hdi => ?_⟩
      obtain ⟨vs, g1, all, e2, fr2, g2, g3⟩ := getCells_vals hr' hgc
      have : all = csd := by
        have := g2.symm.trans hkd
        simpa using (by injection this with this; injection this : all = csd)
      subst this
      obtain ⟨u, hu, hur⟩ := g1.get (i := i) (x := .int .u32 (d : Int)) (by unfold u32s; rw [List.getElem?_map, hdi]; rfl)
      simp only [VR] at hur
      rw [g3 i u hu, hur]
end Go.Vk
set_option linter.unusedSimpArgs false
set_option linter.unusedVariables false
namespace Go.Vk
theorem b_ft : (false == true) = false := rfl
theorem b_tt : (true == true) = true := rfl
theorem b_ff : (false == false) = true := rfl
theorem b_tf : (true == false) = false := rfl
theorem i_eq {a b : Int} (h : a = b) : (a == b) = true := by simp [h]
theorem i_ne {a b : Int} (h : a ≠ b) : (a == b) = false := by simp [h]
theorem wrap_i64 {x : Int} (h1 : -9223372036854775808 ≤ x) (h2 : x < 9223372036854775808) : IntKind.i64.wrap x = x := by
  simp [IntKind.wrap, IntKind.bits, IntKind.signed]
  omega
theorem wrap_u64 {x : Int} (h1 : 0 ≤ x) (h2 : x < 18446744073709551616) : IntKind.u64.wrap x = x := by
  simp [IntKind.wrap, IntKind.bits, IntKind.signed]
  omega
theorem wrap_u32 {x : Int} : IntKind.u32.wrap x = x % 4294967296 := by
  simp [IntKind.wrap, IntKind.bits, IntKind.signed]
section
variable {P : Program} {hk : Hooks} {nt : Nat} {env : Env} {h : Hp} {K : AEx → Env → Hp → Prop}

theorem Ex.step {m id : Nat} {ops : Array Oper} {draw : Bool} {b : Code} {e1 : Env} {h1 : Hp} (hr : runRegion P (callF P hk m) ops draw nt env h = some (e1, h1)) (H : Ex P hk nt b e1 h1 K) : Ex P hk nt (.seq (.region id ops draw) b) env h K := by
  refine Ex.seq ⟨m + 1, .normal, e1, h1, ?_, H⟩
  simp only [exec]
  show (match runRegion P (callF P hk m) ops draw nt env h with | some (env1, h1) => some (AEx.normal, env1, h1) | none => none) = _
  rw [hr]
theorem Ex.last {m id : Nat} {ops : Array Oper} {draw : Bool} {e1 : Env} {h1 : Hp} (hr : runRegion P (callF P hk m) ops draw nt env h = some (e1, h1)) (H : K .normal e1 h1) : Ex P hk nt (.region id ops draw) env h K := by
  refine ⟨m + 1, .normal, e1, h1, ?_, H⟩
  simp only [exec]
  show (match runRegion P (callF P hk m) ops draw nt env h with | some (env1, h1) => some (AEx.normal, env1, h1) | none => none) = _
  rw [hr]
theorem Ex.seq_inv {a b : Code} (H : Ex P hk nt (.seq a b) env h K) : Ex P hk nt a env h (thenK (fun e h => Ex P hk nt b e h K) K) := by
  obtain ⟨n, x, e1, h1, hr, hK⟩ := H
  cases n with
  | zero => simp [exec] at hr
  | succ n =>
    rw [exec] at hr
    split at hr
    · rename_i e2 h2 hg
      exact ⟨n, .normal, e2, h2, hg, n, x, e1, h1, hr, hK⟩
    · rename_i hne
      refine ⟨n, x, e1, h1, hr, ?_⟩
      cases x with
      | normal => exact absurd hr (hne _ _)
      | exit i => exact hK
      | ret => exact hK
theorem Ex.assoc {a b c : Code} (H : Ex P hk nt (.seq a (.seq b c)) env h K) : Ex P hk nt (.seq (.seq a b) c) env h K := by
  refine Ex.seq (Ex.seq (Ex.mono (Ex.seq_inv H) (fun x e h hx => ?_)))
  cases x with
  | normal =>
    refine Ex.mono (Ex.seq_inv hx) (fun y e h hy => ?_)
    cases y with
    | normal => exact hy
    | exit i => exact hy
    | ret => exact hy
  | exit i => exact hx
  | ret => exact hx
theorem Ex.ifT {c : Operand} {x y b : Code} (hc : evalA env c = .bool true) (H : Ex P hk nt (.seq x b) env h K) : Ex P hk nt (.seq (.cond c x y) b) env h K := Ex.seq (Ex.cond_true hc (Ex.seq_inv H))
theorem Ex.ifF {c : Operand} {x y b : Code} (hc : evalA env c = .bool false) (H : Ex P hk nt (.seq y b) env h K) : Ex P hk nt (.seq (.cond c x y) b) env h K := Ex.seq (Ex.cond_false hc (Ex.seq_inv H))
theorem Ex.cut {a b : Code} (R : Env → Hp → Prop) (H1 : Ex P hk nt a env h (thenK R K)) (H2 : ∀ e h', R e h' → Ex P hk nt b e h' K) : Ex P hk nt (.seq a b) env h K := by
  refine Ex.seq (Ex.mono H1 (fun x e h hx => ?_))
  cases x with
  | normal => exact H2 e h hx
  | exit i => exact hx
  | ret => exact hx
theorem Ex.retS {b : Code} (H : K .ret env h) : Ex P hk nt (.seq .ret b) env h K := Ex.seq (Ex.ret H)
theorem Ex.exitS {i : Nat} {b : Code} (H : K (.exit i) env h) : Ex P hk nt (.seq (.exit i) b) env h K := Ex.seq (Ex.exit H)
theorem Ex.skipS {b : Code} (H : Ex P hk nt b env h K) : Ex P hk nt (.seq .skip b) env h K := Ex.seq (Ex.skip H)

/-- What a call comes to, told in the caller's own words: nothing that he sees is made. -/
def PureOK (P : Program) (f : FuncId) (args : List AV) (h : Hp) (r : AV) : Prop :=
  ∀ (c : Cx) (vs : Array Value), Rel c h → GlobOK c → VRL c args vs.toList →
    Calls P f vs c.w fun e w' => ∃ x c', e = .returned x ∧ c'.w = w' ∧ Rel c' h ∧ Step c h c' h ∧ VR c' r x ∧ ∀ b, c'.D b → c.D b ∨ h.nx ≤ b

/-- Pure hooks. -/
def pureHk (g : FuncId → List AV → Hp → Option AV) : Hooks := fun f args h => match g f args h with
  | some r => some (r, h)
  | none => none
theorem pureHk_ok {g : FuncId → List AV → Hp → Option AV} (hg : ∀ f args h r, g f args h = some r → PureOK P f args h r) : CallOK P (pureHk g) := by
  intro f args h r h1 hh c vs hr hgl hv
  unfold pureHk at hh
  split at hh
  · rename_i r' hr'
    simp only [Option.some.injEq, Prod.mk.injEq] at hh; obtain ⟨rfl, rfl⟩ := hh
    exact hg f args h r' hr' c vs hr hgl hv
  · cases hh
theorem pureHk_dom {g : FuncId → List AV → Hp → Option AV} : DomOK (pureHk g) := by
  intro f args h r h1 hh b hb
  unfold pureHk at hh
  split at hh
  · simp only [Option.some.injEq, Prod.mk.injEq] at hh; obtain ⟨rfl, rfl⟩ := hh; exact hb
  · cases hh
def orHk (a b : Hooks) : Hooks := fun f args h => match a f args h with
  | some r => some r
  | none => b f args h
theorem orHk_ok {a b : Hooks} (ha : CallOK P a) (hb : CallOK P b) : CallOK P (orHk a b) := by
  intro f args h r h1 hh c vs hr hgl hv
  unfold orHk at hh
  split at hh
  · rename_i r' hr'
    injection hh with hh; subst hh
    exact ha f args h r h1 hr' c vs hr hgl hv
  · exact hb f args h r h1 hh c vs hr hgl hv
theorem orHk_dom {a b : Hooks} (ha : DomOK a) (hb : DomOK b) : DomOK (orHk a b) := by
  intro f args h r h1 hh
  unfold orHk at hh
  split at hh
  · rename_i r' hr'
    injection hh with hh; subst hh
    exact ha f args h r h1 hr'
  · exact hb f args h r h1 hh

/-- What a run's answer is worth once it is closed. -/
def Closes (c : Cx) (h : Hp) (c2 : Cx) (h2 h' : Hp) (r' r : AV) : Prop := ∃ S : List Nat, (∀ b ∈ S, h.m.get b = none ∧ ∃ x, h'.m.get b = some x ∧ x.rw = true) ∧
  ∀ c' x, Rel c' h' → Step c2 h2 c' h' → VR c' r' x → VR (c.close c' S) r x

theorem pure_of_run (hm : P.follows .mixedOrders = true) (hhk : CallOK P hk) (hhd : DomOK hk) {f : FuncId} {args2 : List AV} {h2 : Hp} {r : AV} {c c2 : Cx} {vs : Array Value} (hr : Rel c h) (hgl : GlobOK c) (ho : Opens c h c2 h2) (hv : VRL c2 args2 vs.toList)
    (H : ExF P hk f args2 h2 fun r' h' => h.sub h' ∧ Closes c h c2 h2 h' r' r) :
    Calls P f vs c.w fun e w' => ∃ x c', e = .returned x ∧ c'.w = w' ∧ Rel c' h ∧ Step c h c' h ∧ VR c' r x ∧ ∀ b, c'.D b → c.D b ∨ h.nx ≤ b := by
  obtain ⟨n, r', h', hrun, hsub, S, hS, hcl⟩ := H
  have := callF_ok hm hhk hhd n f args2 h2 r' h' hrun c2 vs ho.rel (hgl.mono ho.le) hv
  rw [ho.w] at this
  refine this.mono ?_
  rintro e w' ⟨x, c', rfl, rfl, g1, g2, g3, g4⟩
  obtain ⟨k1, k2⟩ := closing S hr ho g1 g2 hsub hS
  exact ⟨x, c.close c' S, rfl, rfl, k1, k2, hcl c' x g1 g2 g3, fun b hb => .inl hb⟩

/-- Values that hold no number of a block. -/
def AV.flat : AV → Bool
  | .bool _ | .int _ _ | .str _ | .nilp | .nils | .nilf | .nili | .nilm => true
  | _ => false
theorem VR.flat {c c' : Cx} {v : AV} {x : Value} (hf : v.flat = true) (h : VR c v x) : VR c' v x := by
  cases v <;> simp [AV.flat] at hf <;> simpa only [VR] using h
theorem closes_flat {c c2 : Cx} {h2 h' : Hp} {v : AV} (hf : v.flat = true) : Closes c h c2 h2 h' v v := ⟨[], by simp, fun c' x _ _ hx => VR.flat hf hx⟩
theorem closes_nat {c c2 : Cx} {h2 h' : Hp} (ho : Opens c h c2 h2) {v : AV} {ds bs : List Nat} (hn : NatAt h' v ds bs) (hd : digOk ds)
    (hb : ∀ b ∈ bs, (h.m.get b = none ∧ ∃ x, h'.m.get b = some x ∧ x.rw = true) ∨ (h2.m.get b ≠ none ∧ h.m.get b = none)) : Closes c h c2 h2 h' v (.opq (.nat (digVal ds))) := by
  classical
  refine ⟨bs.filter fun b => decide (h.m.get b = none ∧ ∃ x, h'.m.get b = some x ∧ x.rw = true), fun b hm => ?_, fun c' x g1 g2 g3 => ?_⟩
  · have := (List.mem_filter.1 hm).2
    exact of_decide_eq_true this
  · refine close_nat ho g1 g2 g3 hn hd (fun b hm => ?_)
    rcases hb b hm with h0 | h0
    · exact .inl (List.mem_filter.2 ⟨hm, decide_eq_true h0⟩)
    · exact .inr h0
end
end Go.Vk
set_option linter.unusedSimpArgs false
set_option linter.unusedVariables false
namespace Go.Vk

/-- Without the noughts above. -/
def strip : List Nat → List Nat
  | [] => []
  | d :: ds => match strip ds with
    | [] => if d = 0 then [] else [d]
    | e :: r => d :: e :: r
def small (ds : List Nat) : Prop := ∀ d ∈ ds, d < 4294967296

theorem strip_val : ∀ ds, digVal (strip ds) = digVal ds
  | [] => rfl
  | d :: ds => by
    have ih := strip_val ds
    simp only [strip]
    split
    · rename_i h
      rw [h] at ih
      split
      · rename_i h0; simp only [digVal] at ih ⊢; omega
      · simp only [digVal] at ih ⊢; omega
    · rename_i e r h
      rw [h] at ih
      simp only [digVal] at ih ⊢; omega
theorem strip_small : ∀ {ds}, small ds → small (strip ds)
  | [], h => h
  | d :: ds, h => by
    have ih := strip_small (ds := ds) fun x hx => h x (List.mem_cons_of_mem _ hx)
    simp only [strip]
    split
    · split
      · intro x hx; cases hx
      · intro x hx; simp at hx; subst hx; exact h _ (List.mem_cons_self ..)
    · rename_i e r hs
      rw [hs] at ih
      intro x hx
      rcases List.mem_cons.1 hx with rfl | hx
      · exact h _ (List.mem_cons_self ..)
      · exact ih x hx
theorem strip_last : ∀ (ds : List Nat) (d : Nat), (strip ds).getLast? = some d → d ≠ 0
  | [], d, h => by cases h
  | x :: ds, d, h => by
    simp only [strip] at h
    split at h
    · split at h
      · cases h
      · rename_i hx; simp at h; subst h; exact hx
    · rename_i e r hs
      have := strip_last ds d
      rw [hs] at this
      apply this
      simpa using h
theorem strip_len : ∀ ds : List Nat, (strip ds).length ≤ ds.length
  | [] => Nat.le_refl _
  | d :: ds => by
    have ih := strip_len ds
    simp only [strip]
    split
    · split <;> simp
    · rename_i e r hs
      rw [hs] at ih
      simp only [List.length_cons] at ih ⊢
      omega
theorem strip_take : ∀ ds : List Nat, ds.take (strip ds).length = strip ds
  | [] => rfl
  | d :: ds => by
    have ih := strip_take ds
    simp only [strip]
    split
    · split <;> simp
    · rename_i e r hs
      rw [hs] at ih
      simp only [List.length_cons, List.take_succ_cons] at ih ⊢
      rw [ih]
theorem strip_ok {ds : List Nat} (h : small ds) : digOk (strip ds) := ⟨strip_small h, strip_last ds⟩
theorem strip_snoc0 : ∀ l : List Nat, strip (l ++ [0]) = strip l
  | [] => by simp [strip]
  | d :: l => by simp only [List.cons_append, strip]; rw [strip_snoc0 l]
theorem strip_snoc : ∀ (l : List Nat) (x : Nat), x ≠ 0 → strip (l ++ [x]) = l ++ [x]
  | [], x, h => by simp [strip, h]
  | d :: l, x, h => by
    simp only [List.cons_append, strip]
    rw [strip_snoc l x h]
    cases l <;> rfl
theorem digVal_append : ∀ (a b : List Nat), digVal (a ++ b) = digVal a + 4294967296 ^ a.length * digVal b
  | [], b => by simp [digVal]
  | d :: a, b => by
    simp only [List.cons_append, digVal, List.length_cons, digVal_append a b]
    rw [Nat.pow_succ, Nat.mul_add]
    have : 4294967296 * (4294967296 ^ a.length * digVal b) = 4294967296 ^ a.length * 4294967296 * digVal b := by
      rw [← Nat.mul_assoc, Nat.mul_comm 4294967296]
    omega
theorem digVal_lt : ∀ {ds : List Nat}, small ds → digVal ds < 4294967296 ^ ds.length
  | [], _ => by simp [digVal]
  | d :: ds, h => by
    have ih := digVal_lt (ds := ds) fun x hx => h x (List.mem_cons_of_mem _ hx)
    have hd := h d (List.mem_cons_self ..)
    simp only [digVal, List.length_cons]
    rw [Nat.pow_succ]
    omega
theorem digVal_zero : ∀ {ds : List Nat}, digOk ds → digVal ds = 0 → ds = []
  | [], _, _ => rfl
  | d :: ds, h, hv => by
    simp only [digVal] at hv
    have hs : digOk ds := ⟨fun x hx => h.1 x (List.mem_cons_of_mem _ hx), fun x hx => h.2 x (by cases ds with | nil => cases hx | cons a b => simpa using hx)⟩
    have h0 := digVal_zero hs (by omega)
    subst h0
    exact absurd (by omega) (h.2 d (by simp))
/-- A digit; 0 above. -/
def dig (ds : List Nat) (i : Nat) : Nat := ds.getD i 0
theorem digVal_take_succ (ds : List Nat) (i : Nat) : digVal (ds.take (i + 1)) = digVal (ds.take i) + 4294967296 ^ i * dig ds i := by
  unfold dig
  by_cases h : i < ds.length
  · rw [List.take_succ_eq_append_getElem h, digVal_append]
    simp [digVal, List.getD_eq_getElem?_getD, h, List.length_take, Nat.min_eq_left (Nat.le_of_lt h)]
  · rw [List.take_of_length_le (by omega), List.take_of_length_le (by omega)]
    simp [List.getD_eq_getElem?_getD, Nat.not_lt.1 h]
theorem dig_lt {ds : List Nat} (h : small ds) (i : Nat) : dig ds i < 4294967296 := by
  unfold dig
  rw [List.getD_eq_getElem?_getD]
  cases hg : ds[i]? with
  | none => simp
  | some d => simpa using h d (List.mem_of_getElem? hg)
theorem small_set {ds : List Nat} (h : small ds) {x : Nat} (hx : x < 4294967296) (i : Nat) : small (ds.set i x) := fun d hd => by
  rcases List.mem_or_eq_of_mem_set hd with h0 | rfl
  · exact h d h0
  · exact hx
theorem take_set {ds : List Nat} {i x : Nat} (hi : i < ds.length) : (ds.set i x).take (i + 1) = ds.take i ++ [x] := by
  rw [List.take_succ_eq_append_getElem (by simpa using hi)]
  simp [List.take_set_of_le]
theorem small_rep (n : Nat) : small (List.replicate n 0) := fun d hd => by
  have := (List.mem_replicate.1 hd).2; omega
theorem putCells_u32 {h : Hp} {ob : Nat} {out : List Nat} (hb : h.m.get ob = some (.row (u32s out) false)) {i x : Nat} (hi : i < out.length) :
    putCells h ob (0 + i * 1) [.int .u32 (x : Int)] = some { h with m := h.m.set ob (.row (u32s (out.set i x)) false) } := by
  unfold putCells
  rw [hb]
  simp only [Nat.zero_add, Nat.mul_one]
  rw [if_pos ⟨by simp [u32s]; omega, by simp [AV.one]⟩]
  congr 3
  unfold u32s
  simp only [List.map_set, Blk.row.injEq, and_true]
  rw [List.set_eq_take_append_cons_drop, if_pos (by simpa using hi)]
  simp
theorem dig_above {ds : List Nat} {i : Nat} (h : ds.length ≤ i) : dig ds i = 0 := by
  unfold dig; rw [List.getD_eq_getElem?_getD, List.getElem?_eq_none h]; rfl
theorem dig_same {a b : List Nat} {i : Nat} (h : ∀ j, i ≤ j → dig a j = dig b j) : ∀ m, i ≤ m → digVal (a.take m) + digVal (b.take i) = digVal (b.take m) + digVal (a.take i) := by
  intro m hm
  induction m with
  | zero => have : i = 0 := by omega
            subst this; simp [digVal]
  | succ m ih =>
    by_cases e : i = m + 1
    · subst e; omega
    · have := ih (by omega)
      rw [digVal_take_succ, digVal_take_succ, h m (by omega)]
      omega
theorem small_take {ds : List Nat} (h : small ds) (i : Nat) : small (ds.take i) := fun d hd => h d (List.mem_of_mem_take hd)
theorem digVal_take_lt {ds : List Nat} (h : small ds) (i : Nat) : digVal (ds.take i) < 4294967296 ^ i := by
  have h1 := digVal_lt (small_take h i)
  have h2 : 4294967296 ^ (ds.take i).length ≤ 4294967296 ^ i := Nat.pow_le_pow_right (by omega) (by simp; omega)
  omega
theorem dig_less {a b : List Nat} {i : Nat} (sa : small a) (sb : small b) (h : ∀ j, i < j → dig a j = dig b j) (hi : dig a i < dig b i) : digVal a < digVal b := by
  have h1 := dig_same (a := a) (b := b) (i := i + 1) h (max (max a.length b.length) (i + 1)) (by omega)
  rw [List.take_of_length_le (l := a) (i := max (max a.length b.length) (i + 1)) (by omega), List.take_of_length_le (l := b) (i := max (max a.length b.length) (i + 1)) (by omega), digVal_take_succ, digVal_take_succ] at h1
  have h2 := digVal_take_lt sa i
  have h3 : 4294967296 ^ i * dig a i + 4294967296 ^ i ≤ 4294967296 ^ i * dig b i := by
    rw [← Nat.mul_succ]; exact Nat.mul_le_mul_left _ hi
  omega
theorem dig_equal {a b : List Nat} (h : ∀ j, dig a j = dig b j) : digVal a = digVal b := by
  have h1 := dig_same (a := a) (b := b) (i := 0) (fun j _ => h j) (max a.length b.length) (by omega)
  rw [List.take_of_length_le (l := a) (i := max a.length b.length) (by omega), List.take_of_length_le (l := b) (i := max a.length b.length) (by omega)] at h1
  simpa [digVal] using h1
def cmpN (a b : Nat) : Int := if a < b then -1 else if b < a then 1 else 0
theorem digVal_rep : ∀ n, digVal (List.replicate n 0) = 0
  | 0 => rfl
  | n + 1 => by simp [List.replicate_succ, digVal, digVal_rep n]
end Go.Vk
