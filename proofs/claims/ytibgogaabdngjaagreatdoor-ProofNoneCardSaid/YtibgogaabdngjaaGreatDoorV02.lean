/- Part of a proof. The abstract machine: append, copy, clear, maps, iterators; all operations that write. The abstract machine: maps that are written, iterators; all operations that write. The abstract machine: one operation, whatever it is. The abstract machine: regions in the order of their text. The abstract machine: regions that draw their order. The abstract machine: regions that draw their order: two operations that do not hang together change places. -/
import Derived.Test.YtibgogaabdngjaaGreatDoorV01
import Derived.Lib.UnsafeStr
import Derived.Lib.Bytealg
import Derived.Lib.Builder
import Derived.KernelRfl
set_option linter.unusedSimpArgs false
set_option linter.unusedVariables false
namespace Go.Vk
section
variable {P : Program} {c : Cx} {h : Hp} {id : Nat}

def GoodV (P : Program) (c : Cx) (h : Hp) (id : Nat) (S : Sem Value) (v : AV) (h1 : Hp) : Prop :=
  ∃ x c', S.run P c.w = .ok x c'.w ∧ VR c' v x ∧ Rel c' h1 ∧ Step c h c' h1 ∧ ∀ b, c'.D b → c.D b ∨ b = id
theorem GoodV.same {S : Sem Value} {v : AV} {x : Value} (hr : Rel c h) (hs : S.run P c.w = .ok x c.w) (hv : VR c v x) : GoodV P c h id S v h := ⟨x, c, hs, hv, hr, Step.refl c h, fun _ hb => .inl hb⟩
theorem GoodV.toE {S : Sem Value} {v : AV} {h1 : Hp} (hg : GoodV P c h id S v h1) : GoodE P c h id (do pure (.value (← S)) : Sem Next) v h1 := by
  obtain ⟨x, c', h1, h2, h3, h4, h5⟩ := hg
  exact GoodE.of_value h1 h2 h3 h4 h5

theorem put_newD {w' : World} : ∀ b, (c.put w' id).D b → c.D b ∨ b = id := fun b hb => by rcases hb with rfl | hb <;> simp_all

theorem append_good {t tx ty e : TypeId} {i : TypeInfo} {zv : Value} {n : Nat} {new : List AV} {news : List Value} {s v : AV} {sv xv : Value} {h1 : Hp} (hr : Rel c h) (hd : ¬ c.D id) (hid : id < h.nx)
    (ht : P.underlying t = some (.slice e)) (hi : P.info? e = some i) (hz : i.zero = some zv) (hzl : (absC zv).cells.length = i.size) (hpos : 0 < i.size) (hs : VR c s sv) (hn : VRL c new news) (hsrc : Src P i.size tx xv n news c.w)
    (h1one : new.all AV.one = true) (hh : appendTo i.bytes i.size n id h new s = some (v, h1)) : GoodV P c h id (Builtin.append_ #[t, tx] ty #[sv, xv]) v h1 := by
  have hzs : zv.cells.size = i.size := by rw [← hzl, ← (absC_cells c zv).length]; simp
  have hnl : news.length = n * i.size := hsrc.newsLen
  unfold appendTo at hh
  split at hh
  -- nil
  · simp only [VR] at hs; subst hs
    split at hh
    · rename_i h0; subst h0
      simp only [Option.some.injEq, Prod.mk.injEq] at hh; obtain ⟨rfl, rfl⟩ := hh
      exact GoodV.same hr (run_append_nil0 ht hi hsrc) (by simp [VR])
    · rename_i h0
      split at hh
      · rename_i hf
        simp only [Option.map_eq_some_iff, Prod.mk.injEq] at hh
        obtain ⟨h2, hfr, rfl, rfl⟩ := hh
        rw [fresh_some hfr]
        obtain ⟨f1, f2⟩ := fits_ok (old := 0) hf (by omega)
        have hrun := run_append_grow_src (P := P) c.w t tx ty e i zv ht hi hz none 0 0 [] (by simp [run_firstCells_none]) xv n news hsrc (by omega) (by simpa using f1) (by simpa using f2)
        simp only [List.nil_append, Nat.zero_add] at hrun
        have hst := grow_step (e := e) (rest := Builtin.zeroCells zv.cells (grownCap c.w n 0 e - n)) hr hd hid hn
        refine ⟨_, _, hrun, ?_, hst.1, hst.2, put_newD⟩
        simp only [VR, put_rho, put_w]
        have hge := grownCap_ge c.w n 0 e
        refine ⟨put_d _, _, rfl, hge, hge, by simp, _, _, _, alloc_new c.w.drew _, ?_⟩
        simp only [Array.size_append, zeroCells_size, hzs, List.size_toArray, hnl]
        rw [← Nat.add_mul]
        have : n + (grownCap c.w n 0 e - n) = grownCap c.w n 0 e := by omega
        rw [this]; omega
      · cases hh
  -- empty
  · simp only [VR] at hs
    obtain ⟨a, m, rfl⟩ := hs
    split at hh
    · rename_i h0; subst h0
      simp only [Option.some.injEq, Prod.mk.injEq] at hh; obtain ⟨rfl, rfl⟩ := hh
      exact GoodV.same hr (run_append_nil0 ht hi hsrc) (by simp [VR])
    · cases hh
  -- a slice
  · rename_i b off len cap ex z
    split at hh
    · cases hh
    · rename_i hzz
      have hzz' : z = i.size := by simpa using hzz
      subst hzz'
      have hs0 := hs
      simp only [VR] at hs
      obtain ⟨hdb, m, rfl, e1, e2, e3, e4⟩ := hs
      split at hh
      · rename_i h0; subst h0
        simp only [Option.some.injEq, Prod.mk.injEq] at hh; obtain ⟨rfl, rfl⟩ := hh
        exact GoodV.same hr (run_append_len0 ht hi hsrc e1) hs0
      · rename_i h0
        split at hh
        -- known room
        · rename_i hroom
          simp only [Option.map_eq_some_iff, Prod.mk.injEq] at hh
          obtain ⟨h2, hp, rfl, rfl⟩ := hh
          obtain ⟨w', g1, g2, g3, g4⟩ := putCells_run (P := P) hr hn hp
          rw [← Nat.add_assoc] at g1
          refine ⟨_, { c with w := w' }, run_append_room ht hi hsrc (by omega) g1, ?_, g2, g3, fun _ hb => .inl hb⟩
          simp only [VR]
          exact ⟨hdb, m, rfl, by omega, e2, e3, g3.le.room e4⟩
        · rename_i hroom
          split at hh
          · cases hh
          · rename_i old hold
            split at hh
            · rename_i hf
              obtain ⟨ovs, o1, o2, o3⟩ := cells_load hr hold
              have holds : (Builtin.firstCells i.size len (.slice (some ⟨(c.rho b).1, (c.rho b).2 + off, none⟩) len m)).run P c.w.drew = .ok ovs.toArray c.w.drew :=
                run_firstCells_some c.w.drew i.size len _ len m ovs o2 (fun j u hu => by rw [add_plain]; simpa using o3 j u hu)
              -- the arm that grows
              have grow : ∀ hlt : m < len + n, ∃ rest : Array Value, (Builtin.append_ #[t, tx] ty #[.slice (some ⟨(c.rho b).1, (c.rho b).2 + off, none⟩) len m, xv]).run P c.w =
                  .ok (.slice (some ⟨c.w.heap.size, 0, none⟩) (len + n) (grownCap c.w (len + n) m e)) (c.w.drew.alloc (.cells ((ovs ++ news).toArray ++ rest) e)) ∧ rest.size = (grownCap c.w (len + n) m e - (len + n)) * i.size := by
                intro hlt
                obtain ⟨f1, f2⟩ := fits_ok (old := m) hf hlt
                exact ⟨_, run_append_grow_src (P := P) c.w t tx ty e i zv ht hi hz _ len m ovs holds xv n news hsrc hlt f1 f2, by rw [zeroCells_size, hzs]⟩
              have hon : VRL c (old ++ new) (ovs ++ news) := o1.append hn
              have hge := grownCap_ge c.w (len + n) m e
              have room' : ∀ rest : Array Value, rest.size = (grownCap c.w (len + n) m e - (len + n)) * i.size → 0 + 0 + grownCap c.w (len + n) m e * i.size ≤ ((ovs ++ news).toArray ++ rest).size := fun rest hrs => by
                simp only [Array.size_append, List.size_toArray, List.length_append, o2, hnl, hrs]
                rw [← Nat.add_mul, ← Nat.add_mul]
                have : len + n + (grownCap c.w (len + n) m e - (len + n)) = grownCap c.w (len + n) m e := by omega
                rw [this]; omega
              split at hh
              -- an exact capacity
              · simp only [Option.map_eq_some_iff, Prod.mk.injEq] at hh
                obtain ⟨h2, hfr, rfl, rfl⟩ := hh
                rw [fresh_some hfr]
                have hm := e3 rfl
                obtain ⟨rest, hrun, hrs⟩ := grow (by omega)
                have hst := grow_step (e := e) (rest := rest) hr hd hid hon
                refine ⟨_, _, hrun, ?_, hst.1, hst.2, put_newD⟩
                simp only [VR, put_rho, put_w]
                exact ⟨put_d _, _, rfl, hge, hge, by simp, _, _, _, alloc_new c.w.drew _, room' rest hrs⟩
              -- a capacity that is at least so much
              · split at hh
                · rename_i all hb
                  split at hh
                  · rename_i h2 hfr
                    simp only [Option.some.injEq, Prod.mk.injEq] at hh
                    obtain ⟨rfl, rfl⟩ := hh
                    rw [fresh_some hfr]
                    by_cases hlt : m < len + n
                    · obtain ⟨rest, hrun, hrs⟩ := grow hlt
                      have hst := grow_step (e := e) (rest := rest) hr hd hid hon
                      have hk := kill_step hst.1 (b := b) (.inr hdb)
                      refine ⟨_, _, hrun, ?_, hk.1, hst.2.trans hk.2, put_newD⟩
                      simp only [VR, put_rho, put_w]
                      exact ⟨put_d _, _, rfl, hge, hge, by simp, _, _, _, alloc_new c.w.drew _, room' rest hrs⟩
                    · obtain ⟨cs, e', fr, k1, k2, k3⟩ := hr.blk b _ hb
                      obtain ⟨cs1, e1', fr1, q1, q2⟩ := e4
                      rw [k1] at q1; injection q1 with q1; injection q1 with qa qb qc; subst qa qb qc
                      have hfit : (c.rho b).2 + off + len * i.size + 0 + news.length ≤ cs.size := by
                        have : (len + n) * i.size ≤ m * i.size := Nat.mul_le_mul_right _ (by omega)
                        rw [Nat.add_mul] at this
                        rw [hnl]; omega
                      obtain ⟨w', cs', r1, r2, r3, r4, r5⟩ := run_storeCells (P := P) (c.rho b).1 ((c.rho b).2 + off + len * i.size) e' fr news 0 c.w cs k1 (k3 rfl) hfit (hn.ones h1one)
                      have hrooms : ∀ (cs0 : Array Value) (e0 : TypeId) (fr0 : Nat × Nat), c.w.heap[(c.rho b).1]? = some (.cells cs0 e0 fr0) → ∃ (cs1 : Array Value) (fr1 : Nat × Nat), w'.heap[(c.rho b).1]? = some (.cells cs1 e0 fr1) ∧ cs1.size = cs0.size := by
                        intro cs0 e0 fr0 hk0
                        rw [k1] at hk0; injection hk0 with hk0; injection hk0 with a1 a2 a3; subst a1 a2 a3
                        exact ⟨cs', fr, r3, r4⟩
                      have hst := take_step (id := id) (off := off) (cells := old ++ new) hr hb hd hid r2 hrooms (fun c' hle hw => by
                        refine ⟨cs', e', fr, r3, fun j x hx => ?_, by rw [r4]; exact k3 rfl⟩
                        rw [r5]
                        have hol : old.length = len * i.size := getCells_length hold
                        by_cases hj : j < len * i.size
                        · rw [if_neg (by omega)]
                          rw [List.getElem?_append_left (by omega)] at hx
                          obtain ⟨u, hu, hur⟩ := o1.get hx
                          refine ⟨u, ?_, VR.mono hle _ _ hur⟩
                          have := o3 j u hu
                          rw [cell?_row k1] at this
                          exact this
                        · rw [List.getElem?_append_right (by omega), hol] at hx
                          obtain ⟨u, hu, hur⟩ := hn.get hx
                          have hjl : j - len * i.size < news.length := (List.getElem?_eq_some_iff.1 hu).1
                          rw [if_pos (by omega)]
                          refine ⟨u, ?_, VR.mono hle _ _ hur⟩
                          rw [show (c.rho b).2 + off + j - ((c.rho b).2 + off + len * i.size + 0) = j - len * i.size by omega]
                          exact hu)
                      obtain ⟨hle, hst1, hst2⟩ := hst
                      refine ⟨_, _, run_append_room ht hi hsrc (by omega) r1, ?_, hst1, hst2, fun i hi => by rcases hi with rfl | hi <;> simp_all⟩
                      simp only [VR, if_true]
                      refine ⟨.inl trivial, m, rfl, by omega, by omega, by simp, cs', e', fr, r3, ?_⟩
                      rw [r4]; omega
                  · cases hh
                · cases hh
            · cases hh
  · cases hh

/-! ### rows whose type is known -/
theorem strE_some {t u : TypeId} {len : Nat} {x : AV} {e : TypeId} {l : List Nat} (h : strE P t u len x = some (e, l)) : x = .str l ∧ srcT P u = true ∧ elemT P t = some e ∧ ∃ i z, P.info? e = some i ∧ zeroT P e = some z ∧ z.length = 1 ∧ i.size = 1 ∧ l.length ≠ 0 ∧ fits (len + l.length) i.bytes = true := by
  unfold strE at h
  split at h <;> try cases h
  split at h <;> try cases h
  rename_i hsrc
  split at h <;> try cases h
  rename_i he
  split at h <;> try cases h
  rename_i i z hi hz
  split at h <;> try cases h
  rename_i hc
  exact ⟨rfl, by simpa using hsrc, he, i, z, hi, hz, hc⟩
theorem appendT_good {t u ty : TypeId} {s x v : AV} {sv xv : Value} {h1 : Hp} (hr : Rel c h) (hd : ¬ c.D id) (hid : id < h.nx) (hs : VR c s sv) (hx : VR c x xv)
    (hh : aAppendT P t u id h s x = some (v, h1)) : GoodV P c h id (Builtin.append_ #[t, u] ty #[sv, xv]) v h1 := by
  unfold aAppendT at hh
  have key : ∀ len e l, strE P t u len x = some (e, l) → ∃ i zv news, P.underlying t = some (.slice e) ∧ P.info? e = some i ∧ i.zero = some zv ∧ zv.cells.size = 1 ∧ i.size = 1 ∧ l.length ≠ 0 ∧ fits (len + l.length) i.bytes = true ∧
      VRL c (l.map fun (c : Nat) => AV.int .u8 (c : Int)) news ∧ Src P i.size u xv l.length news c.w ∧ news.length = l.length := by
    intro len e l hE
    obtain ⟨rfl, hsrc, he, i, z, hi, hz, hzl, hsz, hl0, hf⟩ := strE_some hE
    have ht := elemT_some he
    have hone : (l.map fun (c : Nat) => AV.int .u8 (c : Int)).all AV.one = true := by simp [AV.one]
    obtain ⟨news, hn, hS⟩ := src_ok (P := P) (n := l.length) (sz := 1) (new := l.map fun (c : Nat) => AV.int .u8 (c : Int)) hr hsrc hx rfl (by simp [srcCells]) hone
    have hz' : ∃ zv, i.zero = some zv ∧ z = (absC zv).cells := by
      unfold zeroT at hz
      rw [hi] at hz
      simp only at hz
      split at hz
      · rename_i zv hzv; injection hz with hz; exact ⟨zv, hzv, hz.symm⟩
      · cases hz
    obtain ⟨zv, hz1, rfl⟩ := hz'
    have hzs : zv.cells.size = 1 := by rw [← hzl, ← (absC_cells c zv).length]; simp
    have hnl : news.length = l.length := by have := hS.newsLen; omega
    rw [← hsz] at hS
    exact ⟨i, zv, news, ht, hi, hz1, hzs, hsz, hl0, hf, hn, hS, hnl⟩
  split at hh
  -- nil
  · simp only [VR] at hs; subst hs
    split at hh <;> try cases hh
    rename_i e l hE
    obtain ⟨i, zv, news, ht, hi, hz1, hzs, hsz, hl0, hf, hn, hS, hnl⟩ := key _ _ _ hE
    simp only [Option.map_eq_some_iff, Prod.mk.injEq] at hh
    obtain ⟨h2, hfr, rfl, rfl⟩ := hh
    rw [fresh_some hfr]
    simp only [Nat.zero_add] at hf
    obtain ⟨f1, f2⟩ := fits_ok (old := 0) hf (by omega)
    have hrun := run_append_grow_src (P := P) c.w t u ty e i zv ht hi hz1 none 0 0 [] (by simp [run_firstCells_none]) xv l.length news hS (by omega) (by simpa using f1) (by simpa using f2)
    simp only [List.nil_append, Nat.zero_add] at hrun
    have hst := grow_stepT (e := e) (rest := Builtin.zeroCells zv.cells (grownCap c.w l.length 0 e - l.length)) hr hd hid hn
    refine ⟨_, _, hrun, ?_, hst.1, hst.2, put_newD⟩
    simp only [VR, put_rho, put_w]
    have hge := grownCap_ge c.w l.length 0 e
    refine ⟨put_d _, _, rfl, hge, hge, by simp, _, _, _, alloc_new c.w.drew _, ?_⟩
    simp only [Array.size_append, zeroCells_size, hzs, List.size_toArray, hnl]
    omega
  -- a row
  · rename_i b len cap
    split at hh <;> try cases hh
    rename_i e l hE
    split at hh <;> try cases hh
    rename_i hroom
    split at hh <;> try cases hh
    rename_i e' old hb
    split at hh <;> try cases hh
    rename_i hc2
    obtain ⟨rfl, rfl⟩ := hc2
    obtain ⟨i, zv, news, ht, hi, hz1, hzs, hsz, hl0, hf, hn, hS, hnl⟩ := key _ _ _ hE
    have hone : (l.map fun (c : Nat) => AV.int .u8 (c : Int)).all AV.one = true := by simp [AV.one]
    split at hh <;> try cases hh
    rename_i h2 hfr
    simp only [VR] at hs
    obtain ⟨hdb, m, rfl, e1, e2, e3, e4⟩ := hs
    rw [fresh_some hfr]
    have hB := hr.blk b _ hb
    obtain ⟨ovs, o1, all, ea, fra, o2, o3⟩ := row_vals (off := 0) (n := old.length) (BR.asRow hB) (by omega)
    simp only [List.drop_zero, List.take_length] at o1
    have hol := o1.length
    have holds : (Builtin.firstCells i.size old.length (.slice (some ⟨(c.rho b).1, (c.rho b).2 + 0, none⟩) old.length m)).run P c.w.drew = .ok ovs.toArray c.w.drew :=
      run_firstCells_some c.w.drew i.size old.length _ old.length m ovs (by rw [hsz]; omega) (fun j u hu => by
        rw [add_plain]
        have := cell?_row (w := c.w.drew) (k := (c.rho b).1) (off := (c.rho b).2 + 0 + j) o2
        rw [this]; exact o3 j u hu)
    have hge := grownCap_ge c.w (old.length + l.length) m e'
    by_cases hlt : m < old.length + l.length
    · obtain ⟨f1, f2⟩ := fits_ok (old := m) hf hlt
      have hrun := run_append_grow_src (P := P) c.w t u ty e' i zv ht hi hz1 _ old.length m ovs holds xv l.length news hS hlt f1 f2
      have hst := grow_stepT (e := e') (rest := Builtin.zeroCells zv.cells (grownCap c.w (old.length + l.length) m e' - (old.length + l.length))) hr hd hid (o1.append hn)
      have hk := kill_step hst.1 (b := b) (.inr hdb)
      refine ⟨_, _, hrun, ?_, hk.1, hst.2.trans hk.2, put_newD⟩
      simp only [VR, put_rho, put_w]
      refine ⟨put_d _, _, rfl, hge, hge, by simp, _, _, _, alloc_new c.w.drew _, ?_⟩
      simp only [Array.size_append, zeroCells_size, hzs, List.size_toArray, hnl, List.length_append, hol]
      omega
    · obtain ⟨g0, cs, fr, k1, k2, k3, k4⟩ := hB
      obtain ⟨cs1, e1', fr1, q1, q2⟩ := e4
      rw [k1] at q1; injection q1 with q1; injection q1 with qa qb qc; subst qa qb qc
      have hfit : (c.rho b).2 + 0 + old.length * i.size + 0 + news.length ≤ cs.size := by
        rw [hsz, hnl]; omega
      obtain ⟨w', cs', r1, r2, r3, r4, r5⟩ := run_storeCells (P := P) (c.rho b).1 ((c.rho b).2 + 0 + old.length * i.size) e' fr news 0 c.w cs k1 (k3 rfl) hfit (hn.ones hone)
      have hrooms : ∀ (cs0 : Array Value) (e0 : TypeId) (fr0 : Nat × Nat), c.w.heap[(c.rho b).1]? = some (.cells cs0 e0 fr0) → ∃ (cs1 : Array Value) (fr1 : Nat × Nat), w'.heap[(c.rho b).1]? = some (.cells cs1 e0 fr1) ∧ cs1.size = cs0.size := by
        intro cs0 e0 fr0 hk0
        rw [k1] at hk0; injection hk0 with hk0; injection hk0 with a1 a2 a3; subst a1 a2 a3
        exact ⟨cs', fr, r3, r4⟩
      have hst := take_stepT (id := id) (off := 0) (nb := .trow e' (old ++ l.map fun (c : Nat) => AV.int .u8 (c : Int)) false false) hr hb rfl rfl hd hid r2 hrooms (fun c' hle hw hrho => by
        refine ⟨by rw [hrho]; exact g0, cs', fr, by rw [hrho, hw]; exact r3, fun j x hx => ?_, fun _ => by rw [r4]; exact k3 rfl, fun h => by cases h⟩
        rw [hrho, r5]
        by_cases hj : j < old.length
        · rw [if_neg (by rw [hsz]; omega)]
          rw [List.getElem?_append_left (by omega)] at hx
          obtain ⟨u, hu, hur⟩ := k2 j x hx
          exact ⟨u, by simpa using hu, VR.mono hle _ _ hur⟩
        · rw [List.getElem?_append_right (by omega)] at hx
          obtain ⟨u, hu, hur⟩ := hn.get hx
          have hjl : j - old.length < news.length := (List.getElem?_eq_some_iff.1 hu).1
          rw [if_pos (by rw [hsz]; omega)]
          refine ⟨u, ?_, VR.mono hle _ _ hur⟩
          rw [show (c.rho b).2 + 0 + j - ((c.rho b).2 + 0 + old.length * i.size + 0) = j - old.length by rw [hsz]; omega]
          exact hu)
      obtain ⟨hle, hst1, hst2⟩ := hst
      refine ⟨_, _, run_append_room ht hi hS (by omega) r1, ?_, hst1, hst2, fun i hi => by rcases hi with rfl | hi <;> simp_all⟩
      simp only [VR, if_true]
      refine ⟨.inl trivial, m, rfl, by omega, by omega, by simp, cs', e', fr, r3, ?_⟩
      rw [r4]; omega
  · cases hh

theorem bytesIn_some : ∀ {xs : List AV} {l : List Nat}, bytesIn xs = some l → xs = l.map (fun (n : Nat) => AV.int .u8 (n : Int)) ∧ ∀ n ∈ l, n < 256
  | [], l, h => by simp only [bytesIn, Option.some.injEq] at h; subst h; simp
  | x :: xs, l, h => by
    unfold bytesIn at h
    split at h
    · rename_i e; cases e
    · rename_i n r e
      injection e with e1 e2; subst e1 e2
      split at h
      · rename_i hn
        simp only [Option.map_eq_some_iff] at h
        obtain ⟨l', hl', rfl⟩ := h
        obtain ⟨g1, g2⟩ := bytesIn_some hl'
        refine ⟨?_, fun k hk => ?_⟩
        · rw [g1, List.map_cons, Int.toNat_of_nonneg hn.1]
        · rcases List.mem_cons.1 hk with rfl | hk
          · omega
          · exact g2 k hk
      · cases h
    · cases h

theorem freeze_but (w : World) (a : Addr) (n : Nat) : ButBlock a.block w (w.freeze a n) := by
  unfold World.freeze
  split
  · exact ⟨rfl, rfl, rfl, rfl, fun _ _ => rfl⟩
  · exact ⟨rfl, rfl, rfl, by simp, fun j hj => by simp only [Array.getElem?_modify]; rw [if_neg (fun e => hj e.symm)]⟩

theorem ustr_good {pt it ty : TypeId} {p n v : AV} {pv nv : Value} {h1 : Hp} (hr : Rel c h) (hp : VR c p pv) (hn : VR c n nv) (hh : aUStr P pt h p n = some (v, h1)) :
    GoodV P c h id (Builtin.unsafeString_ #[pt, it] ty #[pv, nv]) v h1 := by
  unfold aUStr at hh
  split at hh <;> try cases hh
  rename_i b n
  split at hh <;> try cases hh
  rename_i e cs ex hb
  split at hh <;> try cases hh
  rename_i e' hpt
  split at hh <;> try cases hh
  rename_i hc
  obtain ⟨rfl, hc1, hc2, hc3, hc4⟩ := hc
  split at hh <;> try cases hh
  rename_i l hl
  simp only [VR] at hp hn
  obtain ⟨hdb, rfl⟩ := hp
  subst hn
  obtain ⟨g1, g2⟩ := bytesIn_some hl
  obtain ⟨g0, vcs, fr, k1, k2, k3, k4⟩ := hr.blk b _ hb
  have hll : l.length = n.toNat := by
    have := congrArg List.length g1
    simp only [List.length_take, List.length_map] at this
    omega
  have hcsz : ∀ j, j < cs.length → (c.rho b).2 + j < vcs.size := fun j hj => by
    obtain ⟨u, hu, _⟩ := k2 j _ (List.getElem?_eq_getElem hj)
    exact (Array.getElem?_eq_some_iff.1 hu).1
  have hrun := Lib.run_unsafeString_row (P := P) c.w pt it ty e' hpt hc1 (c.rho b).1 vcs.size (by simp [World.shape?, k1]) (l.map UInt8.ofNat) (by
      intro h0; rw [List.map_eq_nil_iff] at h0; subst h0; simp at hll; omega) (by
      rw [List.length_map]; have := hcsz (l.length - 1) (by omega); omega) (by rw [List.length_map]; omega) (fun j x hx => by
      simp only [List.getElem?_map, Option.map_eq_some_iff] at hx
      obtain ⟨y, hy, rfl⟩ := hx
      have hy' := g2 y (List.mem_of_getElem? hy)
      have hx2 : cs[j]? = some (.int .u8 (y : Int)) := by
        have hj : j < n.toNat := by rw [← hll]; exact (List.getElem?_eq_some_iff.1 hy).1
        have : (cs.take n.toNat)[j]? = some (.int .u8 (y : Int)) := by rw [g1, List.getElem?_map, hy]; rfl
        rwa [List.getElem?_take_of_lt hj] at this
      obtain ⟨u, hu, hur⟩ := k2 j _ hx2
      simp only [VR] at hur; subst hur
      rw [add_plain, cell?_row k1, Nat.zero_add]
      rw [g0, Nat.zero_add] at hu
      rw [hu]
      simp [Nat.mod_eq_of_lt hy'])
  rw [List.length_map, hll, Int.toNat_of_nonneg (by omega)] at hrun
  simp only [Nat.add_zero, g0] at hrun ⊢
  have hfz : ∃ fr', (c.w.freeze ⟨(c.rho b).1, 0, none⟩ n.toNat).heap[(c.rho b).1]? = some (.cells vcs e' fr') := by
    unfold World.freeze
    split
    · exact ⟨fr, k1⟩
    · simp only [Array.getElem?_modify, if_true, k1, Option.map_some]
      exact ⟨_, rfl⟩
  obtain ⟨fr', hfr'⟩ := hfz
  have hst := change_stepT (w' := c.w.freeze ⟨(c.rho b).1, 0, none⟩ n.toNat) (blk := .trow e' cs ex true) hr hb rfl (freeze_but c.w ⟨(c.rho b).1, 0, none⟩ n.toNat) (fun cs0 e0 fr0 hk0 => by
      rw [k1] at hk0; injection hk0 with hk0; injection hk0 with a1 a2 a3; subst a1 a2 a3; exact ⟨_, fr', hfr', rfl⟩) (fun hle => by
      refine ⟨g0, vcs, fr', hfr', fun i x hx => ?_, (fun h => by cases h), k4⟩
      obtain ⟨u, hu, hur⟩ := k2 i x hx
      exact ⟨u, hu, VR.mono hle _ _ hur⟩)
  refine ⟨_, { c with w := c.w.freeze ⟨(c.rho b).1, 0, none⟩ n.toNat }, hrun, ?_, hst.1, hst.2, fun _ hb => .inl hb⟩
  simp only [VR]
  refine ⟨_, rfl, ?_⟩
  simp only [bytesOf, List.map_map]
  conv => rhs; rw [← List.map_id l]
  exact List.map_congr_left fun y hy => by simp [Nat.mod_eq_of_lt (g2 y hy)]

/-! ### copy -/
theorem first_ok {sz n : Nat} {x : AV} {v : Value} {new : List AV} (hr : Rel c h) (hx : VR c x v) (hs : srcCells h sz n x = some new) : ∃ news : List Value, VRL c new news ∧ (Builtin.firstCells sz n v).run P c.w = .ok news.toArray c.w := by
  unfold srcCells at hs
  split at hs
  · rename_i l
    split at hs
    · injection hs with hs
      simp only [VR] at hx
      obtain ⟨s, rfl, rfl⟩ := hx
      refine ⟨(s.extract 0 n).data.toList.map fun b => Value.int .u8 b.toNat, ?_, ?_⟩
      · have : (s.extract 0 n).data.toList.map (fun b => b.toNat) = (bytesOf s).take n := by
          have := bytesOf_extract s 0 n
          simp [bytesOf] at this ⊢
        rw [← hs, ← this]
        refine VRL.of_get (by simp) (fun i y hy => ?_)
        simp only [List.map_map, List.getElem?_map, Option.map_eq_some_iff] at hy
        obtain ⟨b, hb, rfl⟩ := hy
        exact ⟨.int .u8 b.toNat, by simp only [List.getElem?_map, hb, Option.map_some], by simp [VR]⟩
      · simp only [Builtin.firstCells, Sem.run_pure]
        congr 1
        apply Array.ext'
        simp
    · cases hs
  · split at hs
    · rename_i h0; subst h0
      injection hs with hs; subst hs
      simp only [VR] at hx; subst hx
      exact ⟨[], by simp [VRL], run_firstCells_none c.w sz 0 0 0⟩
    · cases hs
  · split at hs
    · rename_i h0; subst h0
      injection hs with hs; subst hs
      simp only [VR] at hx; obtain ⟨a, m, rfl⟩ := hx
      exact ⟨[], by simp [VRL], run_firstCells_some c.w sz 0 a 0 m [] (by simp) (by simp)⟩
    · cases hs
  · rename_i b off len cap ex z
    split at hs
    · simp only [sliceCells] at hs
      split at hs
      · rename_i hz; subst hz
        simp only [VR] at hx
        obtain ⟨hd, m, rfl, _⟩ := hx
        obtain ⟨vs, v1, v2, v3⟩ := cells_load hr hs
        exact ⟨vs, v1, run_firstCells_some c.w z n _ len m vs v2 (fun j u hu => by rw [add_plain]; exact v3 j u hu)⟩
      · cases hs
    · cases hs
  · cases hs

theorem lenA_ok {x : AV} {v : Value} {n : Nat} {w : World} (hx : VR c x v) (hn : lenA x = some n) : (Builtin.lenOf v).run P w = .ok n w := by
  unfold lenA at hn
  split at hn
  · injection hn with hn; subst hn; simp only [VR] at hx; subst hx; rfl
  · injection hn with hn; subst hn; simp only [VR] at hx; obtain ⟨a, m, rfl⟩ := hx; rfl
  · injection hn with hn; subst hn; simp only [VR] at hx; obtain ⟨_, m, rfl, _⟩ := hx; rfl
  · injection hn with hn; subst hn; simp only [VR] at hx; obtain ⟨s, rfl, rfl⟩ := hx; rw [bytesOf_length]; rfl
  · cases hn

theorem copy_good {t ty : TypeId} {ats : List TypeId} {d x v : AV} {dv xv : Value} {h1 : Hp} (hr : Rel c h) (hdv : VR c d dv) (hx : VR c x xv) (hh : aCopy P t h d x = some (v, h1)) :
    GoodV P c h id (Builtin.copy_ (t :: ats).toArray ty #[dv, xv]) v h1 := by
  unfold aCopy at hh
  split at hh
  · cases hh
  · rename_i e he
    have ht := elemT_some he
    split at hh
    · rename_i i m n hi hm hn
      split at hh
      · cases hh
      · rename_i new hnew
        obtain ⟨news, hv, hfc⟩ := first_ok (P := P) hr hx hnew
        have hlx := lenA_ok (P := P) (w := c.w) hx hn
        split at hh
        · simp only [Option.some.injEq, Prod.mk.injEq] at hh; obtain ⟨rfl, rfl⟩ := hh
          simp only [lenA, Option.some.injEq] at hm; subst hm
          simp only [VR] at hdv; subst hdv
          refine GoodV.same hr (x := .int .i64 0) ?_ (by simp [VR])
          have hm0 : min n 0 = 0 := by simp
          rw [hm0] at hfc
          simp [Builtin.copy_, r_under ht, hlx, r_size hi, hfc, goInt]
        · simp only [Option.some.injEq, Prod.mk.injEq] at hh; obtain ⟨rfl, rfl⟩ := hh
          simp only [lenA, Option.some.injEq] at hm; subst hm
          simp only [VR] at hdv; obtain ⟨a, mm, rfl⟩ := hdv
          have h0 : new = [] := by
            have : min n 0 = 0 := by simp
            rw [this] at hnew
            unfold srcCells at hnew
            split at hnew
            · split at hnew
              · injection hnew with hnew; simpa using hnew.symm
              · cases hnew
            · simpa using hnew.symm
            · simpa using hnew.symm
            · simp only [sliceCells, getCells] at hnew
              split at hnew
              · split at hnew
                · split at hnew
                  · split at hnew
                    · injection hnew with hnew; simpa using hnew.symm
                    · cases hnew
                  · cases hnew
                · cases hnew
              · cases hnew
            · cases hnew
          subst h0
          simp only [VRL] at hv; subst hv
          refine GoodV.same hr (x := .int .i64 0) ?_ (by simp [VR])
          have hm0 : min n 0 = 0 := by simp
          rw [hm0] at hfc
          simp [Builtin.copy_, r_under ht, hlx, r_size hi, hfc, goInt, storeCells]
        · rename_i b off len cap ex sz
          split at hh
          · cases hh
          · rename_i hz
            simp only [Option.map_eq_some_iff, Prod.mk.injEq] at hh
            obtain ⟨h2, hp, rfl, rfl⟩ := hh
            simp only [lenA, Option.some.injEq] at hm; subst hm
            simp only [VR] at hdv; obtain ⟨hdb, mm, rfl, _⟩ := hdv
            obtain ⟨w', g1, g2, g3, g4⟩ := putCells_run (P := P) hr hv hp
            refine ⟨.int .i64 ((min n len : Nat) : Int), { c with w := w' }, ?_, by simp [VR], g2, g3, fun _ hb => .inl hb⟩
            have : (Nat.min n len) = min n len := rfl
            simp [Builtin.copy_, r_under ht, hlx, r_size hi, this, hfc, goInt, g1]
        · cases hh
    · cases hh

/-! ### clear -/
theorem obj_step {b : Nat} {old blk : Blk} {o : Obj} (hr : Rel c h) (hb : h.m.get b = some old) (hw : old.rw = true) (hnew : blk.live = true → blk.rw = true) (hnr : ∀ cs e fr, c.w.heap[(c.rho b).1]? ≠ some (.cells cs e fr))
    (hex : ∃ o0, c.w.heap[(c.rho b).1]? = some o0)
    (hbr : c.le { c with w := { c.w with heap := c.w.heap.setIfInBounds (c.rho b).1 o } } → BR { c with w := { c.w with heap := c.w.heap.setIfInBounds (c.rho b).1 o } } b blk) :
    let w' := { c.w with heap := c.w.heap.setIfInBounds (c.rho b).1 o }
    (setObj (c.rho b).1 o).run P c.w = .ok () w' ∧ Rel { c with w := w' } { h with m := h.m.set b blk } ∧ Step c h { c with w := w' } { h with m := h.m.set b blk } := by
  intro w'
  obtain ⟨o0, ho0⟩ := hex
  have hrun : (setObj (c.rho b).1 o).run P c.w = .ok () w' := by
    cases o0 <;> simp [setObj, Sem.run, ho0, w'] <;> exact absurd ho0 (hnr _ _ _)
  have := change_step (w' := w') (blk := blk) hr hb hw hnew ⟨rfl, rfl, rfl, by simp [w'], fun j hj => by simp [w', Array.getElem?_setIfInBounds_ne (Ne.symm hj)]⟩ (fun cs e fr hk => absurd hk (hnr _ _ _)) hbr
  exact ⟨hrun, this.1, this.2⟩

theorem set_at (w : World) (k : Nat) (o o0 : Obj) (h : w.heap[k]? = some o0) : ({ w with heap := w.heap.setIfInBounds k o } : World).heap[k]? = some o := by
  have := (Array.getElem?_eq_some_iff.1 h).1
  simp [this]

theorem clear_good {t ty : TypeId} {ats : List TypeId} {x : AV} {rest : List Value} {xv : Value} {h1 : Hp} (hr : Rel c h) (hx : VR c x xv) (hh : aClear P t h x = some h1) :
    GoodV P c h id (Builtin.clear_ (t :: ats).toArray ty (xv :: rest).toArray) (.tup []) h1 := by
  unfold aClear at hh
  split at hh
  · rename_i d hu
    injection hh with hh; subst hh
    simp only [VR] at hx; subst hx
    exact GoodV.same hr (x := .tuple #[]) (by cases d <;> simp [Builtin.clear_, r_under hu]) (by simp [VR, VRL])
  · rename_i d hu
    injection hh with hh; subst hh
    simp only [VR] at hx; subst hx
    exact GoodV.same hr (x := .tuple #[]) (by cases d <;> simp [Builtin.clear_, r_under hu]) (by simp [VR, VRL])
  · rename_i d hu
    injection hh with hh; subst hh
    simp only [VR] at hx; obtain ⟨a, m, rfl⟩ := hx
    exact GoodV.same hr (x := .tuple #[]) (by cases d <;> simp [Builtin.clear_, r_under hu]) (by simp [VR, VRL])
  · rename_i e b off n cap ex sz hu
    split at hh
    · rename_i i z hi hz
      split at hh
      · rename_i hc
        obtain ⟨hc1, hc2⟩ := hc
        have hx0 := hx
        simp only [VR] at hx
        obtain ⟨hdb, m, rfl, _⟩ := hx
        split at hh
        · rename_i h0
          injection hh with hh; subst hh h0
          exact GoodV.same hr (x := .tuple #[]) (by simp [Builtin.clear_, r_under hu]) (by simp [VR, VRL])
        · rename_i h0
          obtain ⟨zv, rfl, hzr⟩ := r_zero (w := c.w) hz
          have hzs : zv.cells.size = (absC zv).cells.length := by rw [← (absC_cells c zv).length]; simp
          have hvr : VRL c (repeatL (absC zv).cells n) (Builtin.zeroCells zv.cells n).toList := by
            rcases Nat.eq_zero_or_pos (absC zv).cells.length with hp0 | hp0
            · have : repeatL (absC zv).cells n = [] := List.eq_nil_of_length_eq_zero (by rw [repeat_length, hp0]; simp)
              rw [this]
              have h2 : (Builtin.zeroCells zv.cells n).toList = [] := List.eq_nil_of_length_eq_zero (by simp [zeroCells_size, hzs, hp0])
              rw [h2]; simp [VRL]
            · have := zeros_ok (absC_cells c zv) hp0 n
              unfold Builtin.zeroCells
              rw [hzs]; rw [hzs] at this; exact this
          obtain ⟨w', g1, g2, g3, g4⟩ := putCells_run (P := P) hr hvr hh
          refine ⟨.tuple #[], { c with w := w' }, ?_, by simp [VR, VRL], g2, g3, fun _ hb => .inl hb⟩
          obtain ⟨n', rfl⟩ : ∃ n', n = n' + 1 := ⟨n - 1, by omega⟩
          simp [Builtin.clear_, r_under hu, hzr, g1]
      · cases hh
    · cases hh
  · rename_i kt et b hu
    split at hh
    · rename_i es clock hb
      injection hh with hh; subst hh
      simp only [VR] at hx
      obtain ⟨hdb, rfl⟩ := hx
      obtain ⟨hz0, ents, k1, k2⟩ := hr.blk b _ hb
      obtain ⟨g1, g2, g3⟩ := obj_step (P := P) (blk := .map [] clock) (o := .map #[] clock) hr hb rfl (fun _ => rfl) (fun cs e fr hk => by rw [k1] at hk; injection hk with hk; cases hk) ⟨_, k1⟩ (fun hle => ⟨hz0, #[], set_at _ _ _ _ k1, by simp [ER]⟩)
      refine ⟨.tuple #[], _, ?_, by simp [VR, VRL], g2, g3, fun _ hb => .inl hb⟩
      simp [Builtin.clear_, r_under hu, r_getObj_map k1, g1]
    · cases hh
  · cases hh
end
end Go.Vk
set_option linter.unusedSimpArgs false
set_option linter.unusedVariables false
namespace Go.Vk
section
variable {P : Program} {c : Cx} {h : Hp} {id : Nat}

theorem sameBits_one {t : TypeId} {x y : AV} {v u : Value} (n : Nat) (hx : VR c x v) (hy : VR c y u) (hh : eqOne P t x y = some true) : Instr.sameBits n u v = true := by
  unfold eqOne at hh
  split at hh
  · injection hh with hh; simp only [VR] at hx hy; subst hx hy; cases n <;> simp [Instr.sameBits] at hh ⊢ <;> exact hh.symm
  · simp only [VR] at hx hy; subst hx hy
    split at hh
    · rename_i hk; injection hh with hh; subst hk; cases n <;> simp [Instr.sameBits] at hh ⊢ <;> exact hh.symm
    · cases hh
  · injection hh with hh
    simp only [VR] at hx hy
    obtain ⟨s, rfl, rfl⟩ := hx
    obtain ⟨s', rfl, rfl⟩ := hy
    have h1 : (s' == s) = true := by
      rw [beq_toListBytes, ← bytesOf_beq]
      simp only [beq_iff_eq] at hh ⊢
      exact hh.symm
    cases n <;> simpa [Instr.sameBits] using h1
  · cases hh

theorem sameBits_flat (n : Nat) : ∀ (fs : List Field) (i : Nat) (xs ys : List AV) (vs us : List Value), VRL c xs vs → VRL c ys us → eqFlat P fs i xs ys = some true → us.length = vs.length ∧ (us.zip vs).all (fun (x, y) => Instr.sameBits n x y) = true
  | [], i, [], [], vs, us, hx, hy, hh => by simp only [VRL] at hx hy; subst hx hy; simp
  | [], i, [], _ :: _, vs, us, hx, hy, hh => by simp [eqFlat] at hh
  | [], i, _ :: _, _, vs, us, hx, hy, hh => by simp [eqFlat] at hh
  | f :: fs, i, [], _, vs, us, hx, hy, hh => by simp [eqFlat] at hh
  | f :: fs, i, _ :: _, [], vs, us, hx, hy, hh => by simp [eqFlat] at hh
  | f :: fs, i, x :: xs, y :: ys, vs, us, hx, hy, hh => by
    simp only [eqFlat] at hh
    split at hh
    · split at hh
      · rename_i a b ha hb
        injection hh with hh
        simp only [Bool.and_eq_true] at hh
        obtain ⟨rfl, rfl⟩ := hh
        simp only [VRL] at hx hy
        obtain ⟨v, vr, rfl, hv, hvr⟩ := hx
        obtain ⟨u, ur, rfl, hu, hur⟩ := hy
        have ih := sameBits_flat n fs (i + 1) xs ys vr ur hvr hur hb
        refine ⟨by simp [ih.1], ?_⟩
        simp only [List.zip_cons_cons, List.all_cons, Bool.and_eq_true]
        exact ⟨sameBits_one n hv hu ha, ih.2⟩
      · cases hh
    · cases hh

theorem sameBits_key {t : TypeId} {x y : AV} {v u : Value} (n : Nat) (hx : VR c x v) (hy : VR c y u) (hh : keyEq P t x y = some true) : Instr.sameBits (n + 1) u v = true := by
  unfold keyEq at hh
  split at hh
  · simp only [VR] at hx hy
    obtain ⟨vs, rfl, hvs⟩ := hx
    obtain ⟨us, rfl, hus⟩ := hy
    unfold eqStruct at hh
    split at hh
    · split at hh
      · obtain ⟨h1, h2⟩ := sameBits_flat n _ 0 _ _ vs.toList us.toList hvs hus hh
        simp only [Instr.sameBits, Bool.and_eq_true, beq_iff_eq]
        exact ⟨by simpa using h1, h2⟩
      · cases hh
    · cases hh
  · exact sameBits_one _ hx hy hh

theorem r_keyStays {w : World} {old new : Value} (hs : Instr.sameBits 10000 old new = true) : (Instr.keyThatStays old new).run P w = .ok new w := by
  simp [Instr.keyThatStays, hs]

theorem ER.snoc {k v : AV} {n : Nat} : ∀ {es : List (AV × AV × Nat)} {ents : List MapEntry} {e : MapEntry}, ER c es ents → VR c k e.key → VR c v e.val → e.born = n → ER c (es ++ [(k, v, n)]) (ents ++ [e])
  | [], ents, e, he, h1, h2, h3 => by simp only [ER] at he; subst he; simp only [List.nil_append, ER]; exact ⟨e, [], rfl, h1, h2, h3, rfl⟩
  | (k0, v0, n0) :: es, ents, e, he, h1, h2, h3 => by
    simp only [ER] at he
    obtain ⟨e0, es', rfl, a1, a2, a3, a4⟩ := he
    simp only [List.cons_append, ER]
    exact ⟨e0, es' ++ [e], rfl, a1, a2, a3, ER.snoc a4 h1 h2 h3⟩

theorem map_nr {b : Nat} {ents : Array MapEntry} {clock : Nat} (k1 : c.w.heap[(c.rho b).1]? = some (.map ents clock)) : ∀ cs e fr, c.w.heap[(c.rho b).1]? ≠ some (.cells cs e fr) :=
  fun cs e fr hk => by rw [k1] at hk; injection hk with hk; cases hk

theorem mapUpdate_good {t : TypeId} {m k x : AV} {mv kv xv : Value} {h1 : Hp} (hr : Rel c h) (hm : VR c m mv) (hk : VR c k kv) (hx : VR c x xv) (hh : aMapUpdate P t h m k x = some h1) :
    ∃ c', (Instr.mapUpdate t mv kv xv).run P c.w = .ok () c'.w ∧ Rel c' h1 ∧ Step c h c' h1 ∧ ∀ b, c'.D b → c.D b ∨ b = id := by
  unfold aMapUpdate at hh
  split at hh
  · rename_i kt et b es clock hkt hb
    have ht := keyT_some hkt
    simp only at hb
    split at hh
    · rename_i hok
      simp only [VR] at hm
      obtain ⟨hdb, rfl⟩ := hm
      obtain ⟨hz0, ents, k1, k2⟩ := hr.blk b _ hb
      have hck : (Instr.checkKey false 10000 kt kv).run P c.w = .ok () c.w := keyOk_check (P := P) (w := c.w) false 9998 hk hok
      split at hh
      · rename_i p hf
        injection hh with hh; subst hh
        obtain ⟨q, hq, hfd⟩ := findKey_ok (w := c.w) hok hk k2 hf
        obtain ⟨pv, pn⟩ := p
        obtain ⟨j, e, hqe, he, hv, hbn, ⟨k', hk', hkk⟩, hupd⟩ := hfd
        rw [Nat.zero_add] at hqe
        subst hqe
        have hes : ents[j]? = some e := by simpa using he
        have hstay : (Instr.keyThatStays (((ents[j]?).map (·.key)).getD kv) kv).run P c.w = .ok kv c.w := by
          rw [hes]
          exact r_keyStays (sameBits_key 9999 hk hk' hkk)
        obtain ⟨g1, g2, g3⟩ := obj_step (P := P) (blk := .map (updE P kt k x es) clock) (o := .map (ents.modify j fun e => { e with key := kv, val := xv }) clock) hr hb rfl (fun _ => rfl) (map_nr k1) ⟨_, k1⟩
          (fun hle => ⟨hz0, _, set_at _ _ _ _ k1, by
            rw [Array.toList_modify]
            exact ER.mono hle (hupd kv xv x hk hx)⟩)
        refine ⟨_, ?_, g2, g3, fun _ hb => .inl hb⟩
        simp only [Instr.mapUpdate, Sem.run_bind, r_under ht, Result.andThen_ok, r_getObj_map k1, hck, hq, hstay, g1]
      · rename_i hf
        injection hh with hh; subst hh
        obtain ⟨q, hq, hfd⟩ := findKey_ok (w := c.w) hok hk k2 hf
        have hq' : q = none := hfd
        subst hq'
        obtain ⟨g1, g2, g3⟩ := obj_step (P := P) (blk := .map (es ++ [(k, x, clock)]) (clock + 1)) (o := .map (ents.push { key := kv, val := xv, born := clock }) (clock + 1)) hr hb rfl (fun _ => rfl) (map_nr k1) ⟨_, k1⟩
          (fun hle => ⟨hz0, _, set_at _ _ _ _ k1, by
            rw [Array.toList_push]
            exact ER.snoc (ER.mono hle k2) (VR.mono hle _ _ hk) (VR.mono hle _ _ hx) rfl⟩)
        refine ⟨_, ?_, g2, g3, fun _ hb => .inl hb⟩
        simp only [Instr.mapUpdate, Sem.run_bind, r_under ht, Result.andThen_ok, r_getObj_map k1, hck, hq, g1]
      · cases hh
    · cases hh
  · cases hh

theorem mapEntry_good {t : TypeId} {m k v : AV} {mv kv : Value} {h1 : Hp} (hr : Rel c h) (hm : VR c m mv) (hk : VR c k kv) (hh : aMapEntry P t h m k = some (v, h1)) :
    GoodV P c h id (Instr.mapEntry t mv kv) v h1 := by
  unfold aMapEntry at hh
  split at hh
  · rename_i kt et b es clock hkt hb
    have ht := keyT_some hkt
    simp only at hb
    split at hh
    · rename_i hok
      simp only [VR] at hm
      obtain ⟨hdb, rfl⟩ := hm
      obtain ⟨hz0, ents, k1, k2⟩ := hr.blk b _ hb
      have hck : (Instr.checkKey false 10000 kt kv).run P c.w = .ok () c.w := keyOk_check (P := P) (w := c.w) false 9998 hk hok
      split at hh
      · rename_i pv pn hf
        simp only [Option.some.injEq, Prod.mk.injEq] at hh; obtain ⟨rfl, rfl⟩ := hh
        obtain ⟨q, hq, hfd⟩ := findKey_ok (w := c.w) hok hk k2 hf
        obtain ⟨j, e, hqe, he, hv, hbn, ⟨k', hk', hkk⟩, hupd⟩ := hfd
        rw [Nat.zero_add] at hqe
        subst hqe
        have hes : ents[j]? = some e := by simpa using he
        have hstay : (Instr.keyThatStays (((ents[j]?).map (·.key)).getD kv) kv).run P c.w = .ok kv c.w := by
          rw [hes]
          exact r_keyStays (sameBits_key 9999 hk hk' hkk)
        have hmod : ents.toList.modify j (fun e0 => { e0 with key := kv, val := e.val }) = ents.toList.modify j (fun e0 => { e0 with key := kv }) := by
          refine List.ext_getElem? fun i => ?_
          simp only [List.getElem?_modify]
          by_cases hij : j = i
          · subst hij; rw [he]; simp
          · simp [hij]
        obtain ⟨g1, g2, g3⟩ := obj_step (P := P) (blk := .map (updE P kt k pv es) clock) (o := .map (ents.modify j fun e => { e with key := kv }) clock) hr hb rfl (fun _ => rfl) (map_nr k1) ⟨_, k1⟩
          (fun hle => ⟨hz0, _, set_at _ _ _ _ k1, by
            rw [Array.toList_modify, ← hmod]
            exact ER.mono hle (hupd kv e.val pv hk hv)⟩)
        refine ⟨.tuple #[e.val, goInt (((ents[j]?).map (·.born)).getD 0)], _, ?_, ?_, g2, g3, fun _ hb => .inl hb⟩
        · simp only [Instr.mapEntry, Sem.run_bind, r_under ht, Result.andThen_ok, r_getObj_map k1, hck, hq, hstay, g1, Sem.run_pure]
        · simp only [VR, VRL]
          refine ⟨_, rfl, e.val, _, rfl, VR.mono g3.le _ _ hv, goInt (((ents[j]?).map (·.born)).getD 0), [], rfl, ?_, rfl⟩
          rw [hes]
          simp [goInt, hbn]
      · rename_i hf
        split at hh
        · rename_i zv hz
          simp only [Option.some.injEq, Prod.mk.injEq] at hh; obtain ⟨rfl, rfl⟩ := hh
          obtain ⟨zval, rfl, hzr⟩ := r_zeroA (w := c.w) hz
          obtain ⟨q, hq, hfd⟩ := findKey_ok (w := c.w) hok hk k2 hf
          have hq' : q = none := hfd
          subst hq'
          obtain ⟨g1, g2, g3⟩ := obj_step (P := P) (blk := .map (es ++ [(k, absC zval, clock)]) (clock + 1)) (o := .map (ents.push { key := kv, val := zval, born := clock }) (clock + 1)) hr hb rfl (fun _ => rfl) (map_nr k1) ⟨_, k1⟩
            (fun hle => ⟨hz0, _, set_at _ _ _ _ k1, by
              rw [Array.toList_push]
              exact ER.snoc (ER.mono hle k2) (VR.mono hle _ _ hk) (absC_ok _ zval) rfl⟩)
          refine ⟨.tuple #[zval, goInt clock], _, ?_, ?_, g2, g3, fun _ hb => .inl hb⟩
          · simp only [Instr.mapEntry, Sem.run_bind, r_under ht, Result.andThen_ok, r_getObj_map k1, hck, hq, hzr, g1, Sem.run_pure]
          · simp only [VR, VRL]
            exact ⟨_, rfl, zval, _, rfl, absC_ok _ zval, goInt clock, [], rfl, rfl, rfl⟩
        · cases hh
      · cases hh
    · cases hh
  · cases hh

theorem storeE_ok {n : Nat} {v : AV} {xv : Value} (hv : VR c v xv) : ∀ {es es' : List (AV × AV × Nat)} {ents : List MapEntry}, ER c es ents → storeE n v es = some es' →
    ∃ i, ents.findIdx? (fun e => (e.born : Int) == (n : Int)) = some i ∧ ER c es' (ents.modify i fun e => { e with val := xv })
  | [], es', ents, he, hs => by simp [storeE] at hs
  | (k0, v0, n0) :: es, es', ents, he, hs => by
    simp only [ER] at he
    obtain ⟨e, r, rfl, a1, a2, a3, a4⟩ := he
    simp only [storeE] at hs
    split at hs
    · rename_i hn
      injection hs with hs; subst hs hn
      refine ⟨0, by simp [List.findIdx?_cons, a3], ?_⟩
      simp only [List.modify_zero_cons, ER]
      exact ⟨_, r, rfl, a1, hv, a3, a4⟩
    · rename_i hn
      split at hs
      · rename_i es1 hs1
        injection hs with hs; subst hs
        obtain ⟨i, hi, hr⟩ := storeE_ok hv a4 hs1
        refine ⟨i + 1, ?_, ?_⟩
        · have : ((e.born : Int) == (n : Int)) = false := by simp; omega
          simp [List.findIdx?_cons, this, hi]
        · simp only [List.modify_succ_cons, ER]
          exact ⟨e, _, rfl, a1, a2, a3, hr⟩
      · cases hs

theorem entryStore_good {t : TypeId} {m s x : AV} {mv sv xv : Value} {h1 : Hp} (hr : Rel c h) (hm : VR c m mv) (hs : VR c s sv) (hx : VR c x xv) (hh : aEntryStore h m s x = some h1) :
    ∃ c', (Instr.entryStore t mv sv xv).run P c.w = .ok () c'.w ∧ Rel c' h1 ∧ Step c h c' h1 ∧ ∀ b, c'.D b → c.D b ∨ b = id := by
  unfold aEntryStore at hh
  split at hh
  · rename_i b k n es clock hb
    simp only at hb
    split at hh
    · rename_i h0
      split at hh
      · rename_i es' hes
        injection hh with hh; subst hh
        simp only [VR] at hm hs
        obtain ⟨hdb, rfl⟩ := hm
        subst hs
        obtain ⟨hz0, ents, k1, k2⟩ := hr.blk b _ hb
        obtain ⟨i, hi, hupd⟩ := storeE_ok hx k2 hes
        have hi' : ents.findIdx? (fun e => (e.born : Int) == n) = some i := by
          rw [Int.toNat_of_nonneg h0] at hi
          obtain ⟨l⟩ := ents
          simpa using hi
        obtain ⟨g1, g2, g3⟩ := obj_step (P := P) (blk := .map es' clock) (o := .map (ents.modify i fun e => { e with val := xv }) clock) hr hb rfl (fun _ => rfl) (map_nr k1) ⟨_, k1⟩
          (fun hle => ⟨hz0, _, set_at _ _ _ _ k1, by
            rw [Array.toList_modify]
            exact ER.mono hle hupd⟩)
        refine ⟨_, ?_, g2, g3, fun _ hb => .inl hb⟩
        simp only [Instr.entryStore, Sem.run_bind, r_getObj_map k1, Result.andThen_ok, asInt, asIntOf, Sem.run_pure, hi', g1]
      · cases hh
    · cases hh
  · cases hh

theorem next_good {t : TypeId} {x v : AV} {xv : Value} {h1 : Hp} (hr : Rel c h) (hx : VR c x xv) (hh : aNext h x = some (v, h1)) : GoodV P c h id (Instr.next xv true t) v h1 := by
  unfold aNext at hh
  split at hh
  · rename_i b
    split at hh
    · rename_i s pos hb
      simp only [VR, Nat.add_zero] at hx
      obtain ⟨hdb, rfl⟩ := hx
      obtain ⟨hz0, st, k1, rfl⟩ := hr.blk b _ hb
      rw [hz0]
      have hg : (getObj (c.rho b).1).run P c.w = .ok (.stringIter st pos) c.w := by simp [getObj, Sem.run, k1]
      split at hh
      · rename_i hs
        simp only [Option.some.injEq, Prod.mk.injEq] at hh; obtain ⟨rfl, rfl⟩ := hh
        have hge : ¬ pos < st.size := by
          rw [List.getElem?_eq_none_iff, bytesOf_length] at hs; omega
        exact GoodV.same hr (x := .tuple #[.bool false]) (by simp [Instr.next, hg, hge]) (by simp [VR, VRL])
      · rename_i a hs
        split at hh
        · rename_i ha
          simp only [Option.some.injEq, Prod.mk.injEq] at hh; obtain ⟨rfl, rfl⟩ := hh
          have hlt : pos < st.size := by
            have := (List.getElem?_eq_some_iff.1 hs).1
            rwa [bytesOf_length] at this
          have hat : (st.get! pos).toNat = a := by
            unfold bytesOf at hs
            simp only [List.getElem?_map, Option.map_eq_some_iff] at hs
            obtain ⟨x, hx, rfl⟩ := hs
            congr 1
            have h5 : st.data[pos]? = some x := by simpa using hx
            show st.data[pos]! = x
            rw [getElem!_pos st.data pos (by exact hlt)]
            rw [Array.getElem?_eq_getElem (by exact hlt)] at h5
            injection h5
          have hdec : Utf8.decode st pos = (a, 1) := by
            unfold Utf8.decode
            simp only [Nat.add_zero, hat]
            rw [if_pos ha]
          obtain ⟨g1, g2, g3⟩ := obj_step (P := P) (blk := .iter (bytesOf st) (pos + 1)) (o := .stringIter st (pos + 1)) hr hb rfl (fun _ => rfl) (fun cs e fr hk => by rw [k1] at hk; injection hk with hk; cases hk) ⟨_, k1⟩
            (fun hle => ⟨hz0, st, set_at _ _ _ _ k1, rfl⟩)
          refine ⟨.tuple #[.bool true, goInt pos, .int .i32 a], _, ?_, by simp [VR, VRL, goInt], g2, g3, fun _ hb => .inl hb⟩
          simp only [Instr.next, Sem.run_bind, hg, Result.andThen_ok, if_pos hlt, hdec, g1, Sem.run_pure]
        · cases hh
    · cases hh
  · cases hh
end
end Go.Vk
set_option linter.unusedSimpArgs false
set_option linter.unusedVariables false
namespace Go.Vk
section
variable {P : Program} {c : Cx} {h : Hp} {id : Nat}

theorem goodE_skip {S : Sem Unit} {h1 : Hp} (hg : ∃ c', S.run P c.w = .ok () c'.w ∧ Rel c' h1 ∧ Step c h c' h1 ∧ ∀ b, c'.D b → c.D b ∨ b = id) : GoodE P c h id (do S; pure .skip : Sem Next) (.tup []) h1 := by
  obtain ⟨c', g1, g2, g3, g4⟩ := hg
  exact ⟨.skip, c', by simp only [Sem.run_bind, g1, Result.andThen_ok, Sem.run_pure], .inr ⟨rfl, rfl⟩, g2, g3, g4⟩

theorem map_pair {α β : Type} {x : Option β} {a a' : α} {b : β} (h : x.map (a, ·) = some (a', b)) : x = some b ∧ a' = a := by
  cases x with
  | none => cases h
  | some y => simp only [Option.map_some, Option.some.injEq, Prod.mk.injEq] at h; exact ⟨by rw [h.2], h.1.symm⟩

theorem aEff_ok {o : Oper} {ev : Operand → AV} {ρ : Operand → Value} {v : AV} {h1 : Hp} (hr : Rel c h) (hd : ¬ c.D id) (hid : id < h.nx) (hev : ∀ x, VR c (ev x) (ρ x)) (hh : aEff P ev id h o.op = some (v, h1)) :
    GoodE P c h id (execOp ρ o) v h1 := by
  generalize hop : o.op = op at hh
  cases op <;> simp only [aEff] at hh <;> try cases hh
  case store t a x =>
    unfold execOp; rw [hop]; simp only
    have ha := hev a
    have hx := hev x
    split at hh <;> try cases hh
    rename_i b off xv e1 h2 h3
    split at hh <;> try cases hh
    rename_i hc
    rw [e1] at ha
    split at hh
    · rename_i h1' hp
      simp only [Option.some.injEq, Prod.mk.injEq] at hh
      obtain ⟨rfl, rfl⟩ := hh
      exact store_good (o := o) hr ha hx (fun e => h2 e) hc.1 hc.2 (.inl hp)
    · obtain ⟨hp, rfl⟩ := map_pair hh
      exact store_good (o := o) hr ha hx (fun e => h2 e) hc.1 hc.2 (.inr hp)
  case mapUpdate t m k x =>
    unfold execOp; rw [hop]; simp only
    obtain ⟨hp, rfl⟩ := map_pair hh
    exact goodE_skip (mapUpdate_good hr (hev m) (hev k) (hev x) hp)
  case mapEntry t m k =>
    unfold execOp; rw [hop]; simp only
    exact GoodV.toE (mapEntry_good hr (hev m) (hev k) hh)
  case entryStore t m s x =>
    unfold execOp; rw [hop]; simp only
    obtain ⟨hp, rfl⟩ := map_pair hh
    exact goodE_skip (entryStore_good hr (hev m) (hev s) (hev x) hp)
  case next it isS =>
    cases isS <;> simp only at hh <;> try cases hh
    unfold execOp; rw [hop]; simp only
    exact GoodV.toE (next_good hr (hev it) hh)
  case call cl =>
    unfold execOp; rw [hop]; simp only
    obtain ⟨callee, args, argTypes⟩ := cl
    unfold aEffCall at hh
    split at hh <;> try cases hh
    · rename_i hcl
      simp only at hcl hh; subst hcl
      split at hh <;> try cases hh
      rename_i t u s x hat ha
      split at hh
      · rename_i r hT
        injection hh with hh; subst hh
        have ha' : args = #[s, x] := by apply Array.ext'; simpa using ha
        have hat' : argTypes = #[t, u] := by apply Array.ext'; simpa using hat
        subst ha' hat'
        obtain ⟨y, c', g1, g2, g3, g4, g5⟩ := appendT_good (ty := o.type) hr hd hid (hev s) (hev x) hT
        refine ⟨.value y, c', ?_, .inl ⟨y, rfl, g2⟩, g3, g4, g5⟩
        simp only [resolve, Sem.run_bind, Sem.run_pure, Result.andThen_ok, invoke, builtin, List.map_toArray, List.map_cons, List.map_nil, g1]
      unfold aAppend at hh
      split at hh
      · cases hh
      · rename_i hsrc
        split at hh
        · cases hh
        · rename_i e he
          have ht := elemT_some he
          split at hh
          · rename_i i z n hi hz hn
            split at hh
            · rename_i hc
              split at hh
              · cases hh
              · rename_i new hnew
                split at hh
                · rename_i hone
                  obtain ⟨news, hv, hs⟩ := src_ok (P := P) hr (by simpa using hsrc) (hev x) hn hnew hone
                  have ha' : args = #[s, x] := by apply Array.ext'; simpa using ha
                  have hat' : argTypes = #[t, u] := by apply Array.ext'; simpa using hat
                  subst ha' hat'
                  have hz' : ∃ zv, i.zero = some zv ∧ z = (absC zv).cells := by
                    unfold zeroT at hz
                    rw [hi] at hz
                    simp only at hz
                    split at hz
                    · rename_i zv hzv; injection hz with hz; exact ⟨zv, hzv, hz.symm⟩
                    · cases hz
                  obtain ⟨zv, hz1, rfl⟩ := hz'
                  have := append_good (ty := o.type) hr hd hid ht hi hz1 hc.1 hc.2 (hev s) hv hs hone hh
                  obtain ⟨y, c', g1, g2, g3, g4, g5⟩ := this
                  refine ⟨.value y, c', ?_, .inl ⟨y, rfl, g2⟩, g3, g4, g5⟩
                  simp only [resolve, Sem.run_bind, Sem.run_pure, Result.andThen_ok, invoke, builtin, List.map_toArray, List.map_cons, List.map_nil, g1]
                · cases hh
            · cases hh
          · cases hh
    · rename_i hcl
      simp only at hcl hh; subst hcl
      split at hh <;> try cases hh
      rename_i x ha
      split at hh <;> try cases hh
      rename_i b off len cap ex sz he
      split at hh <;> try cases hh
      rename_i hcap
      have ha' : args = #[x] := by apply Array.ext'; simpa using ha
      subst ha'
      have hx := hev x
      rw [he] at hx
      simp only [VR] at hx
      obtain ⟨hdb, m, hv, e1, e2, e3, e4⟩ := hx
      rw [Nat.blt_eq] at hcap
      have g1 := Lib.run_unsafeSliceData_row (P := P) c.w argTypes o.type ⟨(c.rho b).1, (c.rho b).2 + off, none⟩ len m (by omega)
      refine ⟨.value (.pointer (some ⟨(c.rho b).1, (c.rho b).2 + off, none⟩)), c, ?_, .inl ⟨_, rfl, by simp only [VR]; exact ⟨hdb, by trivial⟩⟩, hr, Step.refl c h, fun _ hb => .inl hb⟩
      simp only [resolve, Sem.run_bind, Sem.run_pure, Result.andThen_ok, invoke, builtin, List.map_toArray, List.map_cons, List.map_nil, hv, g1]
    · rename_i hcl
      simp only at hcl hh; subst hcl
      split at hh <;> try cases hh
      rename_i pt it p n hat ha
      have ha' : args = #[p, n] := by apply Array.ext'; simpa using ha
      have hat' : argTypes = #[pt, it] := by apply Array.ext'; simpa using hat
      subst ha' hat'
      obtain ⟨y, c', g1, g2, g3, g4, g5⟩ := ustr_good (P := P) (id := id) (it := it) (ty := o.type) hr (hev p) (hev n) hh
      refine ⟨.value y, c', ?_, .inl ⟨y, rfl, g2⟩, g3, g4, g5⟩
      simp only [resolve, Sem.run_bind, Sem.run_pure, Result.andThen_ok, invoke, builtin, List.map_toArray, List.map_cons, List.map_nil, g1]
    · rename_i hcl
      simp only at hcl hh; subst hcl
      split at hh <;> try cases hh
      rename_i t ats d x hat ha
      have ha' : args = #[d, x] := by apply Array.ext'; simpa using ha
      have hat' : argTypes = (t :: ats).toArray := by apply Array.ext'; simpa using hat
      subst ha' hat'
      obtain ⟨y, c', g1, g2, g3, g4, g5⟩ := copy_good (P := P) (id := id) (ty := o.type) (ats := ats) hr (hev d) (hev x) hh
      refine ⟨.value y, c', ?_, .inl ⟨y, rfl, g2⟩, g3, g4, g5⟩
      simp only [resolve, Sem.run_bind, Sem.run_pure, Result.andThen_ok, invoke, builtin, List.map_toArray, List.map_cons, List.map_nil, g1]
    · rename_i hcl
      simp only at hcl hh; subst hcl
      split at hh <;> try cases hh
      rename_i t ats x rest hat ha
      have ha' : args = (x :: rest).toArray := by apply Array.ext'; simpa using ha
      have hat' : argTypes = (t :: ats).toArray := by apply Array.ext'; simpa using hat
      subst ha' hat'
      obtain ⟨hp, rfl⟩ := map_pair hh
      obtain ⟨y, c', g1, g2, g3, g4, g5⟩ := clear_good (P := P) (id := id) (ty := o.type) (ats := ats) (rest := rest.map ρ) hr (hev x) hp
      refine ⟨.value y, c', ?_, .inl ⟨y, rfl, g2⟩, g3, g4, g5⟩
      simp only [resolve, Sem.run_bind, Sem.run_pure, Result.andThen_ok, invoke, builtin, List.map_toArray, List.map_cons, List.map_nil, g1]

/-! ### calls -/
/-- What a call's executor is worth. -/
def CallOK (P : Program) (call : FuncId → List AV → Hp → Option (AV × Hp)) : Prop :=
  ∀ f args h r h1, call f args h = some (r, h1) → ∀ (c : Cx) (vs : Array Value), Rel c h → GlobOK c → VRL c args vs.toList →
    Calls P f vs c.w fun e w' => ∃ x c', e = .returned x ∧ c'.w = w' ∧ Rel c' h1 ∧ Step c h c' h1 ∧ VR c' r x ∧ ∀ b, c'.D b → c.D b ∨ h.nx ≤ b

theorem fnE_some {f : FuncId} {e : FnE} (hf : fnE P f = some e) : ∃ fn : Func, P.funcs[f]? = some fn ∧ (fn.name == "runtime.NumGoroutine") = false ∧ fn.body = some e.body ∧ fn.ntmps = e.nt ∧ fn.results.toList = e.results := by
  unfold fnE at hf
  split at hf
  · rename_i fn hfn
    split at hf
    · cases hf
    · rename_i hn
      split at hf
      · rename_i cc hb
        injection hf with hf; subst hf
        exact ⟨fn, hfn, by simpa using hn, hb, rfl, rfl⟩
      · cases hf
  · cases hf

theorem call_run {o : Oper} {cl : Call} {f : FuncId} {args : List AV} {e : FnE} {ev : Operand → AV} {ρ : Operand → Value} (hop : o.op = .call cl) (hev : ∀ x, VR c (ev x) (ρ x)) (hc : calleeA ev o.op = some (f, args)) (hf : fnE P f = some e) :
    ∃ vs : Array Value, (execOp ρ o).run P c.w = .ok (.enter f vs) c.w ∧ VRL c args vs.toList := by
  obtain ⟨fn, h1, h2, h3, _⟩ := fnE_some hf
  rw [hop] at hc
  unfold execOp; rw [hop]; simp only
  obtain ⟨callee, as, ats⟩ := cl
  unfold calleeA at hc
  simp only at hc
  split at hc
  · rename_i g
    split at hc
    · rename_i gg caps hg
      simp only [Option.some.injEq, Prod.mk.injEq] at hc
      obtain ⟨rfl, rfl⟩ := hc
      have hv := hev g
      rw [hg] at hv
      simp only [VR] at hv
      obtain ⟨cs, hρ, hcs⟩ := hv
      refine ⟨as.map ρ ++ cs, ?_, ?_⟩
      · simp only [resolve, Sem.run_bind, Sem.run_pure, Result.andThen_ok, hρ, Deferred.ofValue, invoke, callFunc, run_program, h1]
        simp [h2, h3]
      · simp only [Array.toList_append, Array.toList_map]
        exact (vrl_map hev as.toList).append hcs
    · cases hc
  · cases hc

theorem idxF_eq (c : UInt8) : ∀ (l : List UInt8) (i : Nat), idxF (l.map (·.toNat)) c.toNat i = if Lib.indexByte l c = -1 then -1 else Lib.indexByte l c + i
  | [], i => by simp [idxF, Lib.indexByte]
  | b :: l, i => by
    have hb : Nat.beq b.toNat c.toNat = (b == c) := by
      rw [Bool.eq_iff_iff]
      simp [Nat.beq_eq, UInt8.toNat_inj]
    simp only [List.map_cons, idxF, Lib.indexByte, hb, idxF_eq c l (i + 1)]
    have hge := Lib.indexByte_ge l c
    by_cases e : (b == c) = true
    · simp [e]
    · by_cases e2 : Lib.indexByte l c = -1
      · simp [e, e2]
      · have e3 : ¬ Lib.indexByte l c + 1 = -1 := by omega
        simp [e, e2, e3]; omega
theorem find_noescape {fn : Func} (hn : fn.name = "internal/abi.NoEscape") (ho : fn.origin = "") : Extern.findNext fn = none ∧ Extern.find fn = some Extern.AbiNoEscape.same := by
  unfold Extern.findNext Extern.find
  simp only [hn, ho]
  have e1 : Extern.allNextRows.lookup "internal/abi.NoEscape" = none := by kernel_rfl
  have e2 : Extern.allNextRows.lookup "" = none := by kernel_rfl
  have e3 : Extern.allGenericRows.lookup "internal/abi.NoEscape" = none := by kernel_rfl
  have e4 : Extern.allTypedRows.lookup "internal/abi.NoEscape" = none := by kernel_rfl
  have e5 : Extern.allRows.lookup "internal/abi.NoEscape" = some Extern.AbiNoEscape.same := by kernel_rfl
  rw [e1, e2, e3, e4, e5]
  exact ⟨rfl, rfl⟩
theorem find_index {fn : Func} (hn : fn.name = "internal/bytealg.IndexByteString") (ho : fn.origin = "") : Extern.findNext fn = none ∧ Extern.find fn = some Extern.BytealgIndexByte.indexByte := by
  unfold Extern.findNext Extern.find
  simp only [hn, ho]
  have e1 : Extern.allNextRows.lookup "internal/bytealg.IndexByteString" = none := by kernel_rfl
  have e2 : Extern.allNextRows.lookup "" = none := by kernel_rfl
  have e3 : Extern.allGenericRows.lookup "internal/bytealg.IndexByteString" = none := by kernel_rfl
  have e4 : Extern.allTypedRows.lookup "internal/bytealg.IndexByteString" = none := by kernel_rfl
  have e5 : Extern.allRows.lookup "internal/bytealg.IndexByteString" = some Extern.BytealgIndexByte.indexByte := by kernel_rfl
  rw [e1, e2, e3, e4, e5]
  exact ⟨rfl, rfl⟩
theorem ext_run {o : Oper} {cl : Call} {f : FuncId} {args : List AV} {v : AV} {ev : Operand → AV} {ρ : Operand → Value} (hop : o.op = .call cl) (hev : ∀ x, VR c (ev x) (ρ x)) (hc : calleeA ev o.op = some (f, args)) (hx : extA P f args = some v) :
    ∃ x, (execOp ρ o).run P c.w = .ok (.value x) c.w ∧ VR c v x := by
  rw [hop] at hc
  unfold execOp; rw [hop]; simp only
  obtain ⟨callee, as, ats⟩ := cl
  unfold calleeA at hc
  simp only at hc
  split at hc
  · rename_i g
    split at hc
    · rename_i gg caps hg
      simp only [Option.some.injEq, Prod.mk.injEq] at hc
      obtain ⟨rfl, rfl⟩ := hc
      have hv := hev g
      rw [hg] at hv
      simp only [VR] at hv
      obtain ⟨cs, hρ, hcs⟩ := hv
      have hargs : VRL c (as.toList.map ev ++ caps) (as.map ρ ++ cs).toList := by
        simp only [Array.toList_append, Array.toList_map]
        exact (vrl_map hev as.toList).append hcs
      generalize as.toList.map ev ++ caps = al at hx hargs
      simp only [resolve, Sem.run_bind, Sem.run_pure, Result.andThen_ok, hρ, Deferred.ofValue, invoke, callFunc, run_program, Array.empty_append]
      generalize as.map ρ ++ cs = vs at hargs ⊢
      unfold extA at hx
      split at hx
      · cases hx
      · rename_i fn hfn
        rw [hfn]
        simp only
        split at hx
        · rename_i hb
          simp only [Bool.and_eq_true, beq_iff_eq] at hb
          obtain ⟨hb1, hb2⟩ := hb
          split at hx
          · rename_i hn
            simp only [beq_iff_eq] at hn
            obtain ⟨f1, f2⟩ := find_noescape hn hb2
            split at hx <;> try cases hx
            simp only [VRL] at hargs
            obtain ⟨y, ys, hvs, hy, rfl⟩ := hargs
            have hvs' : vs = #[y] := by apply Array.ext'; simpa using hvs
            subst hvs'
            have hng : (fn.name == "runtime.NumGoroutine") = false := by rw [hn]; rfl
            refine ⟨y, ?_, hy⟩
            simp only [hng, hb1, f1, f2, if_true, Bool.false_eq_true, if_false, Sem.run_bind, run_mark, Result.andThen_ok, Sem.run_pure, Lib.run_noEscape]
          · split at hx
            · rename_i hn
              simp only [beq_iff_eq] at hn
              obtain ⟨f1, f2⟩ := find_index hn hb2
              split at hx <;> try cases hx
              rename_i s n
              split at hx <;> try cases hx
              rename_i h0
              simp only [VRL, VR] at hargs
              obtain ⟨y, ys, hvs, ⟨st, rfl, hs⟩, z, zs, rfl, rfl, rfl⟩ := hargs
              have hvs' : vs = #[.string st, .int .u8 n] := by apply Array.ext'; simpa using hvs
              subst hvs'
              have hng : (fn.name == "runtime.NumGoroutine") = false := by rw [hn]; rfl
              refine ⟨.int .i64 (idxF s (n.toNat % 256) 0), ?_, by simp only [VR]⟩
              have hu : n.toNat % 256 = (n.toNat.toUInt8).toNat := by simp
              rw [← hs, hu]
              unfold bytesOf
              rw [idxF_eq]
              have hge := Lib.indexByte_ge st.data.toList n.toNat.toUInt8
              have : (if Lib.indexByte st.data.toList n.toNat.toUInt8 = -1 then -1 else Lib.indexByte st.data.toList n.toNat.toUInt8 + ((0 : Nat) : Int)) = Lib.indexByte st.data.toList n.toNat.toUInt8 := by
                split
                · rename_i e; rw [e]
                · simp
              rw [this]
              simp only [hng, hb1, f1, f2, if_true, Bool.false_eq_true, if_false, Sem.run_bind, run_mark, Result.andThen_ok, Sem.run_pure, Lib.run_indexByteString]
            · cases hx
        · cases hx
    · cases hc
  · cases hc

/-- One operation, wanted. -/
theorem opVal_ok {call : FuncId → List AV → Hp → Option (AV × Hp)} (hcall : CallOK P call) {o : Oper} {a : Act} {env : Env} {base i : Nat} {v : AV} {h1 : Hp} (hr : Rel c h) (hgl : GlobOK c) (hd : ¬ c.D (base + i)) (hid : base + i < h.nx)
    (hev : ∀ x, VR c (evalA env x) (a.eval x)) (hh : opVal P call base i env h o = some (v, h1)) {K : Act → World → Prop} {Q : Exit → Act → World → Prop}
    (hK : ∀ x c', VR c' v x → Rel c' h1 → Step c h c' h1 → (∀ b, c'.D b → c.D b ∨ b = base + i ∨ h.nx ≤ b) → K (a.put o.dst x) c'.w) : o.wp P a c.w K Q := by
  unfold Oper.wp
  unfold opVal at hh
  split at hh
  · rename_i heff
    split at hh
    · rename_i f args hc
      split at hh
      · rename_i e hf
        have hop : ∃ cl, o.op = .call cl := by
          unfold calleeA at hc
          split at hc
          · rename_i cl he; exact ⟨cl, he⟩
          · cases hc
        obtain ⟨cl, hop⟩ := hop
        obtain ⟨vs, hrun, hvs⟩ := call_run hop hev hc hf
        rw [hrun, Oper.upon_enter]
        refine (hcall f args h v h1 hh c vs hr hgl hvs).mono ?_
        rintro e' w' ⟨x, c', rfl, rfl, g1, g2, g3, g4⟩
        exact hK x c' g3 g1 g2 (fun b hb => (g4 b hb).imp id .inr)
      · rename_i hf
        split at hh
        · rename_i v' hx
          simp only [Option.some.injEq, Prod.mk.injEq] at hh; obtain ⟨rfl, rfl⟩ := hh
          have hop : ∃ cl, o.op = .call cl := by
            unfold calleeA at hc
            split at hc
            · rename_i cl he; exact ⟨cl, he⟩
            · cases hc
          obtain ⟨cl, hop⟩ := hop
          obtain ⟨x, hrun, hvr⟩ := ext_run hop hev hc hx
          rw [hrun, Oper.upon_value]
          exact hK x c hvr hr (Step.refl c h) (fun b hb => .inl hb)
        · cases hh
    · obtain ⟨nx, c', g1, g2, g3, g4, g5⟩ := aEff_ok hr hd hid hev hh
      rw [g1]
      rcases g2 with ⟨x, rfl, hx⟩ | ⟨rfl, rfl⟩
      · rw [Oper.upon_value]
        exact hK x c' hx g3 g4 (fun b hb => (g5 b hb).imp id .inl)
      · rw [Oper.upon_skip]
        exact hK undef c' (by simp [VR, VRL, undef]) g3 g4 (fun b hb => (g5 b hb).imp id .inl)
  · split at hh
    · rename_i v' hp
      simp only [Option.some.injEq, Prod.mk.injEq] at hh; obtain ⟨rfl, rfl⟩ := hh
      obtain ⟨x, c', g1, g2, g3, g4, g5⟩ := aPure_ok hr hd hid hev hp
      rw [g1, Oper.upon_value]
      exact hK x c' g4 g2 g3 (fun b hb => (g5 b hb).imp id .inl)
    · rename_i v' b hp
      split at hh
      · rename_i h2 hfr
        simp only [Option.some.injEq, Prod.mk.injEq] at hh; obtain ⟨rfl, rfl⟩ := hh
        obtain ⟨x, c', g1, g2, g3, g4, g5⟩ := aPure_ok hr hd hid hev hp
        rw [g1, Oper.upon_value]
        have hf2 := fresh_some hfr
        subst hf2
        exact hK x c' g4 g2 g3 (fun b hb => (g5 b hb).imp id .inl)
      · cases hh
    · cases hh
end
end Go.Vk
set_option linter.unusedSimpArgs false
set_option linter.unusedVariables false
namespace Go.Vk
section
variable {P : Program} {c : Cx} {h : Hp}

theorem EnvR.eval {nt : Nat} {env : Env} {a : Act} (he : EnvR c nt env a.tmps) (x : Operand) : VR c (evalA env x) (a.eval x) := by
  cases x with
  | tmp t =>
    simp only [evalA, Act.eval]
    cases hv : env.get t with
    | none => simp only [VR]
    | some v =>
      obtain ⟨x, hx, hr⟩ := he.val t v hv
      simp only [Array.getD_eq_getD_getElem?, hx, Option.getD_some]
      exact hr
  | const v => exact absC_ok c v
  | global g =>
    simp only [evalA, Act.eval]
    split
    · rename_i hl
      have := he.glob g (Nat.le_of_ble_eq_true hl)
      simp only [VR]
      exact ⟨this.1, by rw [this.2]⟩
    · simp only [VR]
  | func f => simp only [evalA, Act.eval, VR]; exact ⟨#[], rfl, rfl⟩

theorem EnvR.put {nt : Nat} {env env1 : Env} {a : Act} {dst : Option Tmp} {v : AV} {x : Value} (he : EnvR c nt env a.tmps) (hv : VR c v x) (hp : putA nt env dst v = some env1) : EnvR c nt env1 (a.put dst x).tmps := by
  unfold putA at hp
  split at hp
  · injection hp with hp; subst hp; exact he
  · rename_i d
    split at hp
    · rename_i hd
      injection hp with hp; subst hp
      refine ⟨by simp [Act.put, he.size], fun t u hu => ?_, he.glob⟩
      rw [PT.get_set] at hu
      split at hu
      · rename_i e; injection hu with hu; subst hu e
        refine ⟨x, ?_, hv⟩
        simp [Act.put, he.size, hd]
      · rename_i e
        obtain ⟨y, hy, hr⟩ := he.val t u hu
        exact ⟨y, by simp only [Act.put]; rw [Array.getElem?_setIfInBounds_ne (Ne.symm e)]; exact hy, hr⟩
    · cases hp

theorem put_defers (a : Act) (dst : Option Tmp) (x : Value) : (a.put dst x).defers = a.defers := by cases dst <;> rfl

theorem wantA_ok {nt : Nat} {ops : Array Oper} {env : Env} {o : Oper} {a : Act} {b : Bool} (he : EnvR c nt env a.tmps) (hw : wantA ops env o = some b) : Region.wanted o (yielded ops a.tmps) = b := by
  unfold wantA at hw
  unfold Region.wanted
  split at hw
  · rename_i hg; injection hw with hw; rw [hg]; exact hw
  · rename_i j want hg
    rw [hg]
    simp only
    split at hw
    · rename_i oj hoj
      split at hw
      · rename_i d hd
        split at hw
        · rename_i bb hb
          injection hw with hw; subst hw
          obtain ⟨x, hx, hr⟩ := he.val d _ hb
          simp only [VR] at hr; subst hr
          simp only [yielded, hoj, Option.bind_some, hd, hx]
          rw [Bool.eq_iff_iff]; simp
        · rename_i hb
          injection hw with hw; subst hw
          obtain ⟨x, hx, hr⟩ := he.val d _ hb
          simp only [VR, VRL] at hr
          obtain ⟨vs, rfl, _⟩ := hr
          simp only [yielded, hoj, Option.bind_some, hd, hx]
          simp
        · cases hw
      · cases hw
    · cases hw

/-- One operation of a region. -/
theorem opStep_ok {call : FuncId → List AV → Hp → Option (AV × Hp)} (hcall : CallOK P call) {ops : Array Oper} {nt base i : Nat} {env env1 : Env} {h1 : Hp} {a : Act} (hr : Rel c h) (he : EnvR c nt env a.tmps) (hd : ¬ c.D (base + i)) (hid : base + i < h.nx)
    (hh : opStep P call ops nt base i env h = some (env1, h1)) {K : Act → World → Prop} {Q : Exit → Act → World → Prop}
    (hK : ∀ a1 c1, Rel c1 h1 → Step c h c1 h1 → EnvR c1 nt env1 a1.tmps → a1.defers = a.defers → (∀ b, c1.D b → c.D b ∨ b = base + i ∨ h.nx ≤ b) → K a1 c1.w) : wpOp P ops Q i K a c.w := by
  unfold opStep at hh
  unfold wpOp
  split at hh
  · cases hh
  · rename_i o ho
    rw [ho]
    simp only
    split at hh
    · cases hh
    · rename_i hw
      rw [wantA_ok he hw]
      simp only [Bool.false_eq_true, if_false]
      split at hh
      · rename_i env2 hp
        simp only [Option.some.injEq, Prod.mk.injEq] at hh; obtain ⟨rfl, rfl⟩ := hh
        exact hK _ c hr (Step.refl c h) (he.put (x := undef) (by simp [VR, VRL, undef]) hp) (put_defers _ _ _) (fun _ hb => .inl hb)
      · cases hh
    · rename_i hw
      rw [wantA_ok he hw]
      simp only [if_true]
      split at hh
      · rename_i v h2 hv
        split at hh
        · rename_i env2 hp
          simp only [Option.some.injEq, Prod.mk.injEq] at hh; obtain ⟨rfl, rfl⟩ := hh
          exact .inl (opVal_ok hcall hr he.glob hd hid he.eval hv (fun x c' g1 g2 g3 g4 => hK _ c' g2 g3 ((he.mono g3.le).put g1 hp) (put_defers _ _ _) g4))
        · cases hh
      · cases hh

theorem seqOps_ok {call : FuncId → List AV → Hp → Option (AV × Hp)} (hcall : CallOK P call) {ops : Array Oper} {nt base n : Nat} {Q : Exit → Act → World → Prop} {envN : Env} {hN : Hp} : ∀ (l : List Nat) (env : Env) (h : Hp) (c : Cx) (a : Act), l.Nodup → (∀ i ∈ l, i < n) →
    Rel c h → EnvR c nt env a.tmps → base + n ≤ h.nx → (∀ i ∈ l, ¬ c.D (base + i)) → seqOps P call ops nt base l env h = some (envN, hN) →
    (∀ a1 c1, Rel c1 hN → Step c h c1 hN → EnvR c1 nt envN a1.tmps → a1.defers = a.defers → (∀ b, c1.D b → c.D b ∨ base ≤ b) → Q .normal a1 c1.w) → wpOps P ops Q l a c.w
  | [], env, h, c, a, _, _, hr, he, hn, hd, hh, hQ => by
    simp only [seqOps, Option.some.injEq, Prod.mk.injEq] at hh; obtain ⟨rfl, rfl⟩ := hh
    simp only [wpOps]
    exact hQ a c hr (Step.refl c h) he rfl (fun _ hb => .inl hb)
  | i :: r, env, h, c, a, hnd, hl, hr, he, hn, hd, hh, hQ => by
    simp only [seqOps] at hh
    split at hh
    · rename_i env1 h1 hs
      rw [wpOps_cons]
      have hi : i < n := hl i (List.mem_cons_self ..)
      have hnd' := List.nodup_cons.1 hnd
      refine opStep_ok hcall hr he (hd i (List.mem_cons_self ..)) (by omega) hs (fun a1 c1 g1 g2 g3 g4 g5 => ?_)
      refine seqOps_ok hcall r env1 h1 c1 a1 hnd'.2 (fun j hj => hl j (List.mem_cons_of_mem _ hj)) g1 g3 (Nat.le_trans hn g2.nx) (fun j hj hdj => ?_) hh (fun a2 c2 k1 k2 k3 k4 k5 => hQ a2 c2 k1 (g2.trans k2) k3 (k4.trans g4) (fun b hb => ?_))
      rcases g5 _ hdj with e | e | e
      · exact hd j (List.mem_cons_of_mem _ hj) e
      · have : j = i := by omega
        subst this; exact hnd'.1 hj
      · have := hl j (List.mem_cons_of_mem _ hj); omega
      · rcases k5 b hb with e | e
        · rcases g5 b e with e | e | e
          · exact .inl e
          · exact .inr (by omega)
          · exact .inr (by omega)
        · exact .inr e
    · cases hh
end
end Go.Vk
set_option linter.unusedSimpArgs false
set_option linter.unusedVariables false
namespace Go.Vk

/-! ### equality of abstract values -/
theorem nbeq {a b : Nat} (h : Nat.beq a b = true) : a = b := Nat.eq_of_beq_eq_true h
theorem Opq.beq_eq : ∀ {a b : Opq}, a.beq b = true → a = b
  | .nat a, .nat b, h => by simp only [Opq.beq] at h; rw [nbeq h]
  | .nat a, .frac _ _ _, h => by simp [Opq.beq] at h
  | .frac _ _ _, .nat b, h => by simp [Opq.beq] at h
  | .frac s a b, .frac t c d, h => by
    simp only [Opq.beq, Bool.and_eq_true, beq_iff_eq] at h
    rw [h.1.1, nbeq h.1.2, nbeq h.2]
mutual
theorem AV.beq_eq : ∀ (a b : AV), AV.beq a b = true → a = b
  | .undef, bb, h => by
    cases bb with
    | undef => rfl
    | _ => simp [AV.beq] at h
  | .bool x, bb, h => by
    cases bb with
    | bool x' => simp only [AV.beq, Bool.and_eq_true, beq_iff_eq] at h; rw [h]
    | _ => simp [AV.beq] at h
  | .int k x, bb, h => by
    cases bb with
    | int k' x' => simp only [AV.beq, Bool.and_eq_true, beq_iff_eq] at h; rw [h.1, h.2]
    | _ => simp [AV.beq] at h
  | .str x, bb, h => by
    cases bb with
    | str x' => simp only [AV.beq, Bool.and_eq_true, beq_iff_eq] at h; rw [h]
    | _ => simp [AV.beq] at h
  | .nilp, bb, h => by
    cases bb with
    | nilp => rfl
    | _ => simp [AV.beq] at h
  | .ptr x y, bb, h => by
    cases bb with
    | ptr x' y' => simp only [AV.beq, Bool.and_eq_true, beq_iff_eq] at h; rw [nbeq h.1, nbeq h.2]
    | _ => simp [AV.beq] at h
  | .nils, bb, h => by
    cases bb with
    | nils => rfl
    | _ => simp [AV.beq] at h
  | .slice a b c d x e, bb, h => by
    cases bb with
    | slice a' b' c' d' x' e' => simp only [AV.beq, Bool.and_eq_true, beq_iff_eq] at h; rw [nbeq h.1.1.1.1.1, nbeq h.1.1.1.1.2, nbeq h.1.1.1.2, nbeq h.1.1.2, h.1.2, nbeq h.2]
    | _ => simp [AV.beq] at h
  | .empty, bb, h => by
    cases bb with
    | empty => rfl
    | _ => simp [AV.beq] at h
  | .nilf, bb, h => by
    cases bb with
    | nilf => rfl
    | _ => simp [AV.beq] at h
  | .nili, bb, h => by
    cases bb with
    | nili => rfl
    | _ => simp [AV.beq] at h
  | .nilm, bb, h => by
    cases bb with
    | nilm => rfl
    | _ => simp [AV.beq] at h
  | .iface t v, bb, h => by
    cases bb with
    | iface t' v' => simp only [AV.beq, Bool.and_eq_true, beq_iff_eq] at h; rw [nbeq h.1, AV.beq_eq _ _ h.2]
    | _ => simp [AV.beq] at h
  | .func f cs, bb, h => by
    cases bb with
    | func f' cs' => simp only [AV.beq, Bool.and_eq_true, beq_iff_eq] at h; rw [nbeq h.1, AV.beqL_eq _ _ h.2]
    | _ => simp [AV.beq] at h
  | .map x, bb, h => by
    cases bb with
    | map x' => simp only [AV.beq, Bool.and_eq_true, beq_iff_eq] at h; rw [nbeq h]
    | _ => simp [AV.beq] at h
  | .agg cs, bb, h => by
    cases bb with
    | agg cs' => simp only [AV.beq, Bool.and_eq_true, beq_iff_eq] at h; rw [AV.beqL_eq _ _ h]
    | _ => simp [AV.beq] at h
  | .tup cs, bb, h => by
    cases bb with
    | tup cs' => simp only [AV.beq, Bool.and_eq_true, beq_iff_eq] at h; rw [AV.beqL_eq _ _ h]
    | _ => simp [AV.beq] at h
  | .opq o, bb, h => by
    cases bb with
    | opq o' => simp only [AV.beq, Bool.and_eq_true, beq_iff_eq] at h; rw [Opq.beq_eq h]
    | _ => simp [AV.beq] at h
theorem AV.beqL_eq : ∀ (a b : List AV), AV.beqL a b = true → a = b
  | [], b, h => by
    cases b with
    | nil => rfl
    | cons y ys => simp [AV.beqL] at h
  | x :: xs, b, h => by
    cases b with
    | nil => simp [AV.beqL] at h
    | cons y ys => simp only [AV.beqL, Bool.and_eq_true] at h; rw [AV.beq_eq _ _ h.1, AV.beqL_eq _ _ h.2]
end
mutual
theorem AV.beq_refl : ∀ a : AV, AV.beq a a = true
  | .undef => by simp [AV.beq]
  | .bool _ => by simp [AV.beq]
  | .int _ _ => by simp [AV.beq]
  | .str _ => by simp [AV.beq]
  | .nilp => by simp [AV.beq]
  | .ptr _ _ => by simp [AV.beq]
  | .nils => by simp [AV.beq]
  | .slice _ _ _ _ _ _ => by simp [AV.beq]
  | .empty => by simp [AV.beq]
  | .nilf => by simp [AV.beq]
  | .nili => by simp [AV.beq]
  | .nilm => by simp [AV.beq]
  | .iface _ v => by simp [AV.beq, AV.beq_refl v]
  | .func _ cs => by simp [AV.beq, AV.beqL_refl cs]
  | .map _ => by simp [AV.beq]
  | .agg cs => by simp [AV.beq, AV.beqL_refl cs]
  | .tup cs => by simp [AV.beq, AV.beqL_refl cs]
  | .opq o => by cases o <;> simp [AV.beq, Opq.beq]
theorem AV.beqL_refl : ∀ a : List AV, AV.beqL a a = true
  | [] => by simp [AV.beqL]
  | x :: xs => by simp [AV.beqL, AV.beq_refl x, AV.beqL_refl xs]
end

/-! ### what an operation looks at -/
theorem mem_looks {ops : Array Oper} {o : Oper} {t : Tmp} (h : Operand.tmp t ∈ o.op.operands) : t ∈ o.looksAt ops := by
  unfold Oper.looksAt
  refine List.mem_append.2 (.inl ?_)
  rw [List.mem_filterMap]
  exact ⟨.tmp t, by simpa using h, rfl⟩
theorem mem_guard {ops : Array Oper} {o oj : Oper} {j : Nat} {b : Bool} {d : Tmp} (hg : o.guard = some (j, b)) (hj : ops[j]? = some oj) (hd : oj.dst = some d) : d ∈ o.looksAt ops := by
  unfold Oper.looksAt
  refine List.mem_append.2 (.inr ?_)
  simp [hg, hj, hd]

/-- Two frames that are the same where an operation looks. -/
def SameAt (ops : Array Oper) (o : Oper) (e1 e2 : Env) : Prop := ∀ t, t ∈ o.looksAt ops → e1.get t = e2.get t
theorem SameAt.eval {ops : Array Oper} {o : Oper} {e1 e2 : Env} (h : SameAt ops o e1 e2) : ∀ x ∈ o.op.operands, evalA e1 x = evalA e2 x := by
  intro x hx
  cases x with
  | tmp t => simp only [evalA, h t (mem_looks hx)]
  | const v => rfl
  | global g => rfl
  | func f => rfl
theorem SameAt.want {ops : Array Oper} {o : Oper} {e1 e2 : Env} (h : SameAt ops o e1 e2) : wantA ops e1 o = wantA ops e2 o := by
  unfold wantA
  split
  · rfl
  · rename_i j want hg
    split
    · rename_i oj hj
      split
      · rename_i d hd
        rw [h d (mem_guard hg hj hd)]
      · rfl
    · rfl

theorem map_congr_ev {ev1 ev2 : Operand → AV} {l : List Operand} (h : ∀ x ∈ l, ev1 x = ev2 x) : l.map ev1 = l.map ev2 := List.map_congr_left h
theorem parts_congr {ev1 ev2 : Operand → AV} {l : List (Nat × Operand)} (h : ∀ p ∈ l, ev1 p.2 = ev2 p.2) : l.map (fun (i, x) => (i, ev1 x)) = l.map (fun (i, x) => (i, ev2 x)) :=
  List.map_congr_left fun p hp => by obtain ⟨i, x⟩ := p; simp only; rw [h (i, x) hp]
theorem opt_congr {ev1 ev2 : Operand → AV} {l : Option Operand} (h : ∀ x, l = some x → ev1 x = ev2 x) : l.map ev1 = l.map ev2 := by
  cases l with
  | none => rfl
  | some x => simp [h x rfl]

theorem aPure_congr {P : Program} {ev1 ev2 : Operand → AV} {id : Nat} {h : Hp} {op : Op} (he : ∀ x ∈ op.operands, ev1 x = ev2 x) : aPure P ev1 id h op = aPure P ev2 id h op := by
  cases op <;> simp only [aPure] <;> try rfl
  case move x => rw [he x (by simp [Op.operands])]
  case assign x => rw [he x (by simp [Op.operands])]
  case pick a b c => rw [he a (by simp [Op.operands]), he b (by simp [Op.operands]), he c (by simp [Op.operands])]
  case box t x => rw [he x (by simp [Op.operands])]
  case build t ps => rw [parts_congr fun p hp => he p.2 (by simp only [Op.operands, List.mem_toArray, List.mem_map]; exact ⟨p, hp, rfl⟩)]
  case buildSlice t n ps => rw [parts_congr fun p hp => he p.2 (by simp only [Op.operands, List.mem_toArray, List.mem_map]; exact ⟨p, hp, rfl⟩)]
  case load t x => rw [he x (by simp [Op.operands])]
  case nilCheck x => rw [he x (by simp [Op.operands])]
  case binOp o t x y u => rw [he x (by simp [Op.operands]), he y (by simp [Op.operands])]
  case unOp o t x => rw [he x (by simp [Op.operands])]
  case convert s d x => rw [he x (by simp [Op.operands])]
  case makeInterface t x => rw [he x (by simp [Op.operands])]
  case makeFunc fn fs cs =>
    cases fn <;> simp only [aPure]
    rw [map_congr_ev fun x hx => he x (by simp only [Op.operands, Array.mem_append]; exact .inr (by simpa using hx))]
  case makeMap t r => cases r <;> simp only [aPure]
  case makeSlice t x y => rw [he x (by simp [Op.operands]), he y (by simp [Op.operands])]
  case slice t x lo hi mx =>
    rw [he x (by simp [Op.operands]), opt_congr (l := lo) fun y hy => he y (by simp [Op.operands, hy]), opt_congr (l := hi) fun y hy => he y (by simp [Op.operands, hy]), opt_congr (l := mx) fun y hy => he y (by simp [Op.operands, hy])]
  case fieldAddr t x i => rw [he x (by simp [Op.operands])]
  case field t x i => rw [he x (by simp [Op.operands])]
  case indexAddr t x i => rw [he x (by simp [Op.operands]), he i (by simp [Op.operands])]
  case index t x i => rw [he x (by simp [Op.operands]), he i (by simp [Op.operands])]
  case lookup t x i ok => rw [he x (by simp [Op.operands]), he i (by simp [Op.operands])]
  case extract x i => rw [he x (by simp [Op.operands])]
  case range t x => rw [he x (by simp [Op.operands])]
  case call cl =>
    have ha : ∀ x ∈ cl.args.toList, ev1 x = ev2 x := fun x hx => he x (by simp only [Op.operands, Call.operands, Array.mem_append]; exact .inr (by simpa using hx))
    unfold aCall
    split
    · split
      · rename_i h1 h2; rw [ha _ (by rw [h2]; simp)]
      · rfl
    · split
      · rename_i h1
        rw [ha _ (by rw [h1]; simp), map_congr_ev fun x hx => ha x (by rw [h1]; exact List.mem_cons_of_mem _ hx)]
      · rfl
    · split
      · rename_i h1
        rw [ha _ (by rw [h1]; simp), map_congr_ev fun x hx => ha x (by rw [h1]; exact List.mem_cons_of_mem _ hx)]
      · rfl
    · rfl

theorem aEff_congr {P : Program} {ev1 ev2 : Operand → AV} {id : Nat} {h : Hp} {op : Op} (he : ∀ x ∈ op.operands, ev1 x = ev2 x) : aEff P ev1 id h op = aEff P ev2 id h op := by
  cases op <;> simp only [aEff] <;> try rfl
  case store t a x => rw [he a (by simp [Op.operands]), he x (by simp [Op.operands])]
  case mapUpdate t m k x => rw [he m (by simp [Op.operands]), he k (by simp [Op.operands]), he x (by simp [Op.operands])]
  case mapEntry t m k => rw [he m (by simp [Op.operands]), he k (by simp [Op.operands])]
  case entryStore t m k x => rw [he m (by simp [Op.operands]), he k (by simp [Op.operands]), he x (by simp [Op.operands])]
  case next it b => cases b <;> simp only [aEff]; rw [he it (by simp [Op.operands])]
  case call cl =>
    have ha : ∀ x ∈ cl.args.toList, ev1 x = ev2 x := fun x hx => he x (by simp only [Op.operands, Call.operands, Array.mem_append]; exact .inr (by simpa using hx))
    unfold aEffCall
    split
    · split
      · rename_i h1 h2; rw [ha _ (by rw [h2]; simp), ha _ (by rw [h2]; simp)]
      · rfl
    · split
      · rename_i h1; rw [ha _ (by rw [h1]; simp)]
      · rfl
    · split
      · rename_i h1 h2; rw [ha _ (by rw [h2]; simp), ha _ (by rw [h2]; simp)]
      · rfl
    · split
      · rename_i h1 h2; rw [ha _ (by rw [h2]; simp), ha _ (by rw [h2]; simp)]
      · rfl
    · split
      · rename_i h1 h2; rw [ha _ (by rw [h2]; simp)]
      · rfl
    · rfl

theorem calleeA_congr {ev1 ev2 : Operand → AV} {op : Op} (he : ∀ x ∈ op.operands, ev1 x = ev2 x) : calleeA ev1 op = calleeA ev2 op := by
  cases op <;> simp only [calleeA] <;> try rfl
  case call cl =>
    have ha : ∀ x ∈ cl.args.toList, ev1 x = ev2 x := fun x hx => he x (by simp only [Op.operands, Call.operands, Array.mem_append]; exact .inr (by simpa using hx))
    split
    · rename_i g hg
      rw [he g (by simp [Op.operands, Call.operands, hg]), map_congr_ev ha]
    · rfl

theorem readsA_congr {P : Program} {ev1 ev2 : Operand → AV} {op : Op} (he : ∀ x ∈ op.operands, ev1 x = ev2 x) : readsA P ev1 op = readsA P ev2 op := by
  cases op <;> simp only [readsA] <;> try rfl
  case load t x => rw [he x (by simp [Op.operands])]
  case convert s d x => rw [he x (by simp [Op.operands])]
  case slice t x lo hi mx => rw [he x (by simp [Op.operands])]
  case lookup t x i ok => rw [he x (by simp [Op.operands])]
  case call cl =>
    have ha : ∀ x ∈ cl.args.toList, ev1 x = ev2 x := fun x hx => he x (by simp only [Op.operands, Call.operands, Array.mem_append]; exact .inr (by simpa using hx))
    split
    · split
      · rename_i h1; rw [ha _ (by rw [h1]; simp)]
      · rfl
    · rfl

theorem opVal_congr {P : Program} {call : FuncId → List AV → Hp → Option (AV × Hp)} {ops : Array Oper} {base i : Nat} {e1 e2 : Env} {h : Hp} {o : Oper} (hs : SameAt ops o e1 e2) : opVal P call base i e1 h o = opVal P call base i e2 h o := by
  have he := hs.eval
  unfold opVal
  rw [calleeA_congr he, aEff_congr he, aPure_congr he]

/-! ### what an operation reads -/
def sameRead (h1 h2 : Hp) : Reads → Prop
  | .nothing => True
  | .cells b off n => getCells h1 b off n = getCells h2 b off n ∧ getT h1 b off n = getT h2 b off n
  | .whole b => h1.m.get b = h2.m.get b

theorem getCells_congr {h1 h2 : Hp} {b : Nat} (hb : h1.m.get b = h2.m.get b) (off n : Nat) : getCells h1 b off n = getCells h2 b off n := by unfold getCells; rw [hb]

theorem getT_congr {h1 h2 : Hp} {b : Nat} (hb : h1.m.get b = h2.m.get b) (off n : Nat) : getT h1 b off n = getT h2 b off n := by unfold getT; rw [hb]
theorem aConv_read {P : Program} {src dst : TypeId} {h1 h2 : Hp} {v : AV} (hb : ∀ b off n m ex z, v = .slice b off n m ex z → h1.m.get b = h2.m.get b) (hp : ∀ b off, v = .ptr b off → h1.m.get b = h2.m.get b) : aConv P src dst h1 v = aConv P src dst h2 v := by
  have key : ∀ b off n m ex z, v = .slice b off n m ex z → ∀ k, getCells h1 b off k = getCells h2 b off k := fun b off n m ex z e k => getCells_congr (hb b off n m ex z e) off k
  unfold aConv
  split <;> try rfl
  · split <;> try rfl
    rw [key _ _ _ _ _ _ rfl]
  · rw [hp _ _ rfl]
  · rw [hp _ _ rfl]
theorem mapIn_read {h1 h2 : Hp} {v : AV} (hb : ∀ b, v = .map b → h1.m.get b = h2.m.get b) : mapIn h1 v = mapIn h2 v := by
  unfold mapIn
  split <;> try rfl
  rw [hb _ rfl]
theorem aLen_read {P : Program} {t : TypeId} {h1 h2 : Hp} {v : AV} (hb : ∀ b, v = .map b → h1.m.get b = h2.m.get b) : aLen P t h1 v = aLen P t h2 v := by
  unfold aLen
  split <;> try rfl
  rw [hb _ rfl]

theorem aPure_read {P : Program} {ev : Operand → AV} {id : Nat} {h1 h2 : Hp} {op : Op} (hr : sameRead h1 h2 (readsA P ev op)) : aPure P ev id h1 op = aPure P ev id h2 op := by
  cases op <;> simp only [aPure] <;> try rfl
  case load t x =>
    simp only [readsA] at hr
    split
    · rename_i b off he
      rw [he] at hr
      simp only [sameRead] at hr
      rw [hr.1, hr.2]
    · rfl
  case convert s d x =>
    simp only [readsA] at hr
    rw [aConv_read (h1 := h1) (h2 := h2) (fun b off n m ex z he => by rw [he] at hr; exact hr) (fun b off he => by rw [he] at hr; exact hr)]
  case makeFunc fn fs cs => cases fn <;> rfl
  case makeMap t r => cases r <;> rfl
  case slice t x lo hi mx =>
    simp only [readsA] at hr
    split
    · rename_i n e ht
      rw [ht] at hr
      simp only at hr
      unfold aSliceArr
      split
      · rename_i b off hx _
        rw [hx] at hr
        simp only [sameRead] at hr
        rw [hr.1]
      · rfl
    · rfl
  case lookup t x k ok =>
    simp only [readsA] at hr
    unfold aLookup
    rw [mapIn_read (h1 := h1) (h2 := h2) (fun b he => by rw [he] at hr; exact hr)]
  case call cl =>
    unfold aCall
    simp only [readsA] at hr
    split
    · rename_i hcl
      rw [hcl] at hr
      simp only at hr
      split
      · rename_i hx
        rw [hx] at hr
        simp only at hr
        rw [aLen_read (h1 := h1) (h2 := h2) (fun b he => by rw [he] at hr; exact hr)]
      · rfl
    · rfl
    · rfl
    · rfl
end Go.Vk
set_option linter.unusedSimpArgs false
set_option linter.unusedVariables false
namespace Go.Vk

structure AS where
  env : Env
  h : Hp
  segs : List (Nat × Hp)

section
variable (P : Program) (call : FuncId → List AV → Hp → Option (AV × Hp)) (ops : Array Oper) (B : List Nat) (nt base : Nat)

/-- One operation, from one state to another. -/
def astep (i : Nat) (s s1 : AS) : Prop := ∃ o, ops[i]? = some o ∧ (∀ d, o.dst = some d → d < nt) ∧
  ((wantA ops s.env o = some false ∧ (∀ t, s1.env.get t = if o.dst = some t then some (.tup []) else s.env.get t) ∧ (∀ b, s1.h.m.get b = s.h.m.get b) ∧ s1.h.nx = s.h.nx ∧ s1.segs = s.segs) ∨
   (wantA ops s.env o = some true ∧ ∃ v, (∀ t, s1.env.get t = if o.dst = some t then some v else s.env.get t) ∧
     ((isEff o.op = false ∧ ∃ blk : Option Blk, aPure P (evalA s.env) (base + i) s.h o.op = some (v, blk) ∧ (blk.isSome = true → s.h.m.get (base + i) = none) ∧
        readOk B base ops.size i s.h (readsA P (evalA s.env) o.op) s.segs = true ∧ (∀ b, s1.h.m.get b = if b = base + i ∧ blk.isSome = true then blk else s.h.m.get b) ∧ s1.h.nx = s.h.nx ∧ s1.segs = s.segs) ∨
      (isEff o.op = true ∧ ∃ hs hs1 : Hp, (∀ b x, hs.m.get b = some x → s.h.m.get b = some x) ∧ hs.nx = s.h.nx ∧ opVal P call base i s.env hs o = some (v, hs1) ∧
        (∀ b, s1.h.m.get b = match hs1.m.get b with | some x => some x | none => s.h.m.get b) ∧ s1.h.nx = hs1.nx ∧ s1.segs = (i, hs) :: s.segs))))
end

theorem anc_bool {B : List Nat} {i j : Nat} (h : ¬ anc B i j = true) : anc B i j = false := by simpa using h

theorem sameRead_all {h1 h2 : Hp} (h : ∀ b, h1.m.get b = h2.m.get b) (r : Reads) : sameRead h1 h2 r := by
  cases r with
  | nothing => trivial
  | cells b off n => exact ⟨getCells_congr (h b) off n, getT_congr (h b) off n⟩
  | whole b => exact h b

theorem segsOk_congr {B : List Nat} {i : Nat} {h1 h2 : Hp} {r : Reads} (hr : sameRead h1 h2 r) : ∀ segs, segsOk B i h1 r segs = segsOk B i h2 r segs
  | [] => rfl
  | (e, h0) :: segs => by
    simp only [segsOk, segsOk_congr hr segs]
    cases r with
    | nothing => rfl
    | whole b => rfl
    | cells b off n => simp only [sameRead] at hr; simp only [hr.1, hr.2]

/-- What is read is elsewhere than a block that another operation makes. -/
theorem blk_ne {B : List Nat} {base n i j b : Nat} (hi : i < n) (ha : ¬ anc B i j = true) (hb : blkOk B base n j b = true) : b ≠ base + i := by
  rintro rfl
  unfold blkOk at hb
  simp only [Bool.or_eq_true] at hb
  rcases hb with (hb | hb) | hb
  · have := Nat.le_of_ble_eq_true hb; omega
  · have := Nat.le_of_ble_eq_true hb; omega
  · rw [Nat.add_sub_cancel_left] at hb; exact ha hb

theorem sameRead_but {B : List Nat} {base n i j : Nat} {h1 h2 : Hp} {r : Reads} {segs : List (Nat × Hp)} (hi : i < n) (ha : ¬ anc B i j = true) {hx : Hp} (hr : readOk B base n j hx r segs = true) (hh : ∀ b, b ≠ base + i → h1.m.get b = h2.m.get b) : sameRead h1 h2 r := by
  unfold readOk at hr
  simp only [Bool.and_eq_true] at hr
  cases r with
  | nothing => trivial
  | cells b off n' => exact ⟨getCells_congr (hh b (blk_ne hi ha hr.1)) off n', getT_congr (hh b (blk_ne hi ha hr.1)) off n'⟩
  | whole b => exact hh b (blk_ne hi ha hr.1)

theorem readOk_congr {B : List Nat} {base n i : Nat} {h1 h2 : Hp} {r : Reads} (hr : sameRead h1 h2 r) (segs : List (Nat × Hp)) : readOk B base n i h1 r segs = readOk B base n i h2 r segs := by
  unfold readOk; rw [segsOk_congr hr]

theorem getCells_sub {hs h : Hp} (hsub : ∀ b x, hs.m.get b = some x → h.m.get b = some x) {b off n : Nat} {y : List AV} (hg : getCells hs b off n = some y) : getCells h b off n = some y := by
  obtain ⟨all, ro, hb, hl, rfl⟩ := getCells_some hg
  unfold getCells
  rw [hsub b _ hb]
  simp only
  rw [if_pos hl]

theorem getT_sub {hs h : Hp} (hsub : ∀ b x, hs.m.get b = some x → h.m.get b = some x) {b off n : Nat} {y : List AV} (hg : getT hs b off n = some y) : getT h b off n = some y := by
  obtain ⟨t, all, ex, ro, hb, hl, rfl⟩ := getT_some hg
  unfold getT
  rw [hsub b _ hb]
  simp only
  rw [if_pos hl]
theorem getCells_none {h : Hp} {b off n : Nat} {y : List AV} (hg : getT h b off n = some y) : getCells h b off n = none := by
  obtain ⟨t, all, ex, ro, hb, _⟩ := getT_some hg
  unfold getCells
  rw [hb]
theorem getT_none {h : Hp} {b off n : Nat} {y : List AV} (hg : getCells h b off n = some y) : getT h b off n = none := by
  obtain ⟨all, ro, hb, _⟩ := getCells_some hg
  unfold getT
  rw [hb]
section
variable {P : Program} {call : FuncId → List AV → Hp → Option (AV × Hp)} {ops : Array Oper} {B : List Nat} {nt base : Nat}

/-- Behind operation i operation j finds what it finds ahead of it. -/
theorem swap_read {i j : Nat} {oj : Oper} {s s1 : AS} (hin : i < ops.size) (ha : ¬ anc B i j = true) (hst : astep P call ops B nt base i s s1) {r : Reads} (hr : readOk B base ops.size j s1.h r s1.segs = true) :
    sameRead s1.h s.h r ∧ readOk B base ops.size j s.h r s.segs = true := by
  obtain ⟨oi, hoi, hdi, h | ⟨hw, v, hv, h | h⟩⟩ := hst
  · obtain ⟨hw, hv, hb, hn, hs⟩ := h
    have := sameRead_all hb r
    exact ⟨this, by rw [← readOk_congr this, ← hs]; exact hr⟩
  · obtain ⟨he, blk, hp, hf, hro, hb, hn, hs⟩ := h
    have : sameRead s1.h s.h r := sameRead_but hin ha hr (fun b hne => by rw [hb b, if_neg (fun hh => hne hh.1)])
    exact ⟨this, by rw [← readOk_congr this, ← hs]; exact hr⟩
  · obtain ⟨he, hs, hs1, hsub, hnx, hop, hb, hn, hsg⟩ := h
    rw [hsg] at hr
    unfold readOk at hr
    simp only [Bool.and_eq_true, segsOk] at hr
    obtain ⟨hr1, hr2, hr3⟩ := hr
    have ha' := anc_bool ha
    rw [ha', Bool.false_or] at hr2
    have key : sameRead s1.h s.h r := by
      cases r with
      | nothing => trivial
      | whole b => simp at hr2
      | cells b off n =>
        simp only at hr2
        split at hr2
        · rename_i x y hx hy
          have := AV.beqL_eq _ _ hr2
          subst this
          have hy' := getCells_sub hsub hy
          exact ⟨hx.trans hy'.symm, (getT_none hx).trans (getT_none hy').symm⟩
        · split at hr2
          · rename_i x y hx hy
            have := AV.beqL_eq _ _ hr2
            subst this
            have hy' := getT_sub hsub hy
            exact ⟨(getCells_none hx).trans (getCells_none hy').symm, hx.trans hy'.symm⟩
          · cases hr2
    refine ⟨key, ?_⟩
    unfold readOk
    rw [← segsOk_congr key, hr3]
    simpa using hr1

def envPut (env : Env) (dst : Option Tmp) (v : AV) : Env := match dst with
  | some d => env.set d v
  | none => env
theorem envPut_get (env : Env) (dst : Option Tmp) (v : AV) (t : Nat) : (envPut env dst v).get t = if dst = some t then some v else env.get t := by
  cases dst with
  | none => simp [envPut]
  | some d =>
    simp only [envPut, PT.get_set, Option.some.injEq]
    by_cases h : t = d
    · simp [h]
    · rw [if_neg h, if_neg (Ne.symm h)]
def hpPut (h : Hp) (id : Nat) : Option Blk → Hp
  | some b => { h with m := h.m.set id b }
  | none => h
theorem hpPut_get (h : Hp) (id : Nat) (blk : Option Blk) (b : Nat) : (hpPut h id blk).m.get b = if b = id ∧ blk.isSome = true then blk else h.m.get b := by
  cases blk with
  | none => simp [hpPut]
  | some x =>
    simp only [hpPut, PT.get_set]
    by_cases h : b = id
    · simp [h]
    · simp [h]
theorem hpPut_nx (h : Hp) (id : Nat) (blk : Option Blk) : (hpPut h id blk).nx = h.nx := by cases blk <;> rfl

theorem sameAt_put {o : Oper} {dst : Option Tmp} {env e1 : Env} {v : AV} (hd : ∀ d, dst = some d → d ∉ o.looksAt ops) (he : ∀ t, e1.get t = if dst = some t then some v else env.get t) : SameAt ops o e1 env := by
  intro t ht
  rw [he t, if_neg]
  intro h
  exact hd t h ht

/-- Two operations change places. -/
theorem swap {i j : Nat} {oi oj : Oper} {s s1 s2 : AS} (hi : ops[i]? = some oi) (hj : ops[j]? = some oj) (hne : i ≠ j) (hap : oi.apart ops oj = true) (hje : isEff oj.op = false) (ha : ¬ anc B i j = true) (ha' : ¬ anc B j i = true)
    (h1 : astep P call ops B nt base i s s1) (h2 : astep P call ops B nt base j s1 s2) : ∃ s', astep P call ops B nt base j s s' ∧ astep P call ops B nt base i s' s2 := by
  obtain ⟨hx, hx2, hy⟩ := Oper.apart_spec hap
  have hij : i < ops.size := (Array.getElem?_eq_some_iff.1 hi).1
  have hjj : j < ops.size := (Array.getElem?_eq_some_iff.1 hj).1
  have hdne : ∀ d, oi.dst = some d → oj.dst ≠ some d := hx2
  have hdi : ∀ d, oi.dst = some d → d ∉ oj.looksAt ops := hx
  have hdj : ∀ d, oj.dst = some d → d ∉ oi.looksAt ops := hy
  have h1' := h1
  obtain ⟨oi', hi', hdin, h1⟩ := h1
  rw [hi] at hi'; injection hi' with hi'; subst hi'
  obtain ⟨oj', hj', hdjn, h2⟩ := h2
  rw [hj] at hj'; injection hj' with hj'; subst hj'
  -- j at s as at s1
  have hsj : SameAt ops oj s1.env s.env := by
    rcases h1 with ⟨_, hv, _⟩ | ⟨_, v, hv, _⟩ <;> exact sameAt_put hdi hv
  rcases h2 with ⟨hw2, hv2, hb2, hn2, hs2⟩ | ⟨hw2, v2, hv2, h2 | h2⟩
  · -- j is not wanted
    refine ⟨⟨envPut s.env oj.dst (.tup []), s.h, s.segs⟩, ⟨oj, hj, hdjn, .inl ⟨by rw [← hsj.want]; exact hw2, envPut_get _ _ _, fun _ => rfl, rfl, rfl⟩⟩, oi, hi, hdin, ?_⟩
    have hsi : SameAt ops oi (envPut s.env oj.dst (.tup [])) s.env := sameAt_put hdj (envPut_get _ _ _)
    have henv : ∀ (w : AV), (∀ t, s1.env.get t = if oi.dst = some t then some w else s.env.get t) → ∀ t, s2.env.get t = if oi.dst = some t then some w else (envPut s.env oj.dst (.tup [])).get t := fun w hw t => by
      rw [hv2 t, envPut_get, hw t]
      by_cases e1 : oi.dst = some t
      · rw [if_pos e1, if_neg (hdne t e1), if_pos e1]
      · rw [if_neg e1, if_neg e1]
    rcases h1 with ⟨hw1, hv1, hb1, hn1, hs1⟩ | ⟨hw1, v1, hv1, h1 | h1⟩
    · exact .inl ⟨by rw [hsi.want]; exact hw1, henv _ hv1, fun b => by rw [hb2 b]; exact hb1 b, by rw [hn2]; exact hn1, by rw [hs2]; exact hs1⟩
    · obtain ⟨he, blk, hp, hf, hro, hb1, hn1, hs1⟩ := h1
      exact .inr ⟨by rw [hsi.want]; exact hw1, v1, henv _ hv1, .inl ⟨he, blk, by rw [aPure_congr hsi.eval]; exact hp, hf, by rw [readsA_congr hsi.eval]; exact hro, fun b => by rw [hb2 b]; exact hb1 b, by rw [hn2]; exact hn1, by rw [hs2]; exact hs1⟩⟩
    · obtain ⟨he, hs, hs', hsub, hnx, hop, hb1, hn1, hsg⟩ := h1
      exact .inr ⟨by rw [hsi.want]; exact hw1, v1, henv _ hv1, .inr ⟨he, hs, hs', hsub, hnx, by rw [opVal_congr hsi]; exact hop, fun b => by rw [hb2 b]; exact hb1 b, by rw [hn2]; exact hn1, by rw [hs2]; exact hsg⟩⟩
  · -- j reads
    obtain ⟨he2, blk2, hp2, hf2, hro2, hb2, hn2, hs2⟩ := h2
    rw [readsA_congr hsj.eval] at hro2
    obtain ⟨hsr, hro⟩ := swap_read (oj := oj) hij ha h1' hro2
    have hp2' : aPure P (evalA s.env) (base + j) s.h oj.op = some (v2, blk2) := by
      rw [← aPure_read hsr, ← aPure_congr hsj.eval]; exact hp2
    -- the block's number is free at s too
    have hfree : ∀ b, s1.h.m.get b = none → s.h.m.get b = none := fun b hb => by
      rcases h1 with ⟨_, _, hb1, _⟩ | ⟨_, v1, _, ⟨_, blk, _, hf, _, hb1, _⟩ | ⟨_, hs, hs', hsub, _, _, hb1, _⟩⟩
      · rw [← hb1 b]; exact hb
      · rw [hb1 b] at hb
        split at hb
        · rename_i hc; rw [hb] at hc; simp at hc
        · exact hb
      · rw [hb1 b] at hb
        split at hb
        · cases hb
        · exact hb
    let s' : AS := ⟨envPut s.env oj.dst v2, hpPut s.h (base + j) blk2, s.segs⟩
    have hsi : SameAt ops oi s'.env s.env := sameAt_put hdj (envPut_get _ _ _)
    refine ⟨s', ⟨oj, hj, hdjn, .inr ⟨by rw [← hsj.want]; exact hw2, v2, envPut_get _ _ _, .inl ⟨hje, blk2, hp2', fun hb => hfree _ (hf2 hb), hro, hpPut_get _ _ _, hpPut_nx _ _ _, rfl⟩⟩⟩, oi, hi, hdin, ?_⟩
    have henv : ∀ (w : AV), (∀ t, s1.env.get t = if oi.dst = some t then some w else s.env.get t) → ∀ t, s2.env.get t = if oi.dst = some t then some w else s'.env.get t := fun w hw t => by
      rw [hv2 t, show s'.env.get t = _ from envPut_get _ _ _ t, hw t]
      by_cases e1 : oi.dst = some t
      · rw [if_pos e1, if_neg (hdne t e1), if_pos e1]
      · rw [if_neg e1, if_neg e1]
    have hs'get : ∀ b, s'.h.m.get b = if b = base + j ∧ blk2.isSome = true then blk2 else s.h.m.get b := hpPut_get _ _ _
    have hs'nx : s'.h.nx = s.h.nx := hpPut_nx _ _ _
    rcases h1 with ⟨hw1, hv1, hb1, hn1, hs1⟩ | ⟨hw1, v1, hv1, h1 | h1⟩
    · refine .inl ⟨by rw [hsi.want]; exact hw1, henv _ hv1, fun b => ?_, by rw [hn2, hn1, hs'nx], by rw [hs2]; exact hs1⟩
      rw [hb2 b, hb1 b, hs'get b]
    · obtain ⟨he, blk, hp, hf, hro1, hb1, hn1, hs1⟩ := h1
      have hsr1 : sameRead s'.h s.h (readsA P (evalA s.env) oi.op) := sameRead_but hjj ha' hro1 (fun b hb => by rw [hs'get b, if_neg (fun hc => hb hc.1)])
      refine .inr ⟨by rw [hsi.want]; exact hw1, v1, henv _ hv1, .inl ⟨he, blk, by rw [aPure_congr hsi.eval, aPure_read hsr1]; exact hp, fun hb => ?_, by rw [readsA_congr hsi.eval, readOk_congr hsr1]; exact hro1, fun b => ?_, by rw [hn2, hn1, hs'nx], by rw [hs2]; exact hs1⟩⟩
      · rw [hs'get, if_neg (by omega)]; exact hf hb
      · rw [hb2 b, hb1 b, hs'get b]
        by_cases e1 : b = base + i ∧ blk.isSome = true
        · rw [if_pos e1, if_neg (by omega), if_pos e1]
        · rw [if_neg e1, if_neg e1]
    · obtain ⟨he, hs, hs', hsub, hnx, hop, hb1, hn1, hsg⟩ := h1
      have hnone : blk2.isSome = true → hs'.m.get (base + j) = none ∧ s.h.m.get (base + j) = none := fun hb => by
        have h0 := hf2 hb
        rw [hb1] at h0
        split at h0
        · cases h0
        · rename_i hn; exact ⟨hn, h0⟩
      refine .inr ⟨by rw [hsi.want]; exact hw1, v1, henv _ hv1, .inr ⟨he, hs, hs', fun b x hb => ?_, by rw [hs'nx]; exact hnx, by rw [opVal_congr hsi]; exact hop, fun b => ?_, by rw [hn2, hn1], by rw [hs2]; exact hsg⟩⟩
      · rw [hs'get b]
        split
        · rename_i hc
          have := (hnone hc.2).2
          rw [← hc.1, hsub b x hb] at this; cases this
        · exact hsub b x hb
      · rw [hb2 b, hb1 b, hs'get b]
        by_cases e1 : b = base + j ∧ blk2.isSome = true
        · rw [if_pos e1, if_pos e1, e1.1, (hnone e1.2).1]
        · rw [if_neg e1, if_neg e1]
  · rw [hje] at h2; cases h2.1
end
end Go.Vk
