/- Part of a proof. Fractions: zero, Abs; hooks of Parts. Fractions: New, Of, Neg. Fractions: hooks of New, Of, Neg. Fractions: sure, signed, Sign, Whole, Floor. Fractions: hooks of sure, signed, Sign, Whole. Fractions: Add, Mul, Div, Floor, Text: the runs. Fractions: Mul, Div, Floor, Text: the runs. -/
import Derived.Test.YtibgogaabdngjaaGreatDoorV09
set_option linter.unusedSimpArgs false
set_option linter.unusedVariables false
set_option maxRecDepth 100000
set_option maxHeartbeats 4000000
namespace Go.Vk
open Go.Proofs (Tryz.prog)
theorem fn_zero : fnE Tryz.prog 89 = some ⟨(Go.Proofs.Tryz.f89.body).getD .skip, 6, [.tmp 2]⟩ := by kernel_rfl
theorem blen_zero {a : Nat} : (((blen a : Nat) : Int) == 0) = Nat.beq a 0 := by
  unfold blen
  cases a with
  | zero => rfl
  | succ n =>
    rw [if_neg (by omega)]
    have : Nat.beq (n + 1) 0 = false := rfl
    rw [this, beq_eq_false_iff_ne]
    omega
theorem zero_run {hk : Hooks} (B : NatHk hk) (hn : ∀ a h, hk 89 a h = none) {h : Hp} {a : Nat} (ha : szOk a) :
    ExF Tryz.prog hk 89 [.opq (.nat a)] h fun r' h1 => r' = .bool (Nat.beq a 0) ∧ h1.m = h.m := by
  refine ExF.body fn_zero (hn _ _) (by simp) ?_
  simp only [Go.Proofs.Tryz.f89, Option.getD_some]
  have c0 : ∀ m nx, callF Tryz.prog hk m 132 [.opq (.nat a)] ⟨h.m, nx⟩ = some (.int .i64 (blen a : Nat), ⟨h.m, nx⟩) := fun m nx => callF_hk (B.bits ha)
  (repeat refine Ex.assoc ?_); refine Ex.step (m := 0) (by simp (config := {decide := true}) only [RS, Nat.reduceAdd]; rfl) ?_
  refine Ex.forget fun E hE => ?_; have k0 := hE 0; simp (config := {decide := true}) only [RS, Nat.reduceAdd] at k0; clear hE; have g0 := k0; clear k0
  (repeat refine Ex.assoc ?_); refine Ex.step (m := 0) (by simp (config := {decide := true}) only [RS, Nat.reduceAdd, g0, fn_bits, c0, blen_zero]; rfl) ?_
  refine Ex.ret ⟨trivial, _, by simp (config := {decide := true}) only [RS, Nat.reduceAdd]; rfl, ?_, rfl⟩
  simp (config := {decide := true}) only [RS, Nat.reduceAdd]
theorem fn_abs : fnE Tryz.prog 76 = some ⟨(Go.Proofs.Tryz.f76.body).getD .skip, 10, [.tmp 2]⟩ := by kernel_rfl
theorem abs_run {hk : Hooks} (hn : ∀ a h, hk 76 a h = none) {h : Hp} {x : Int} (h1 : -9223372036854775808 ≤ x) (h2 : x < 9223372036854775808) :
    ExF Tryz.prog hk 76 [.int .i64 x] h fun r' h1 => r' = .int .u64 (x.natAbs : Nat) ∧ h1.m = h.m := by
  refine ExF.body fn_abs (hn _ _) (by simp) ?_
  simp only [Go.Proofs.Tryz.f76, Option.getD_some]
  (repeat refine Ex.assoc ?_); refine Ex.step (m := 0) (by simp (config := {decide := true}) only [RS, Nat.reduceAdd]; rfl) ?_
  (repeat refine Ex.assoc ?_); refine Ex.step (m := 0) (by simp (config := {decide := true}) only [RS, Nat.reduceAdd]; rfl) ?_
  refine Ex.forget fun E hE => ?_; have k0 := hE 0; simp (config := {decide := true}) only [RS, Nat.reduceAdd] at k0; have k4 := hE 4; simp (config := {decide := true}) only [RS, Nat.reduceAdd] at k4; clear hE; have g0 := k0; clear k0; have g4 := k4; clear k4
  by_cases hx : x < 0
  · refine Ex.ifT (by simp (config := {decide := true}) only [RS, Nat.reduceAdd, g4, hx]) ?_
    have w1 : IntKind.u64.wrap (0 - IntKind.u64.wrap x) = ((x.natAbs : Nat) : Int) := by
      simp [IntKind.wrap, IntKind.bits, IntKind.signed]
      omega
    (repeat refine Ex.assoc ?_); refine Ex.step (m := 0) (by simp (config := {decide := true}) only [RS, Nat.reduceAdd, g0, tU64, tI64, w1]; rfl) ?_
    refine Ex.retS ⟨trivial, _, by simp (config := {decide := true}) only [RS, Nat.reduceAdd]; rfl, ?_, rfl⟩
    simp (config := {decide := true}) only [RS, Nat.reduceAdd]
  · refine Ex.ifF (by simp (config := {decide := true}) only [RS, Nat.reduceAdd, g4, hx]) (Ex.skipS ?_)
    have w1 : IntKind.u64.wrap x = ((x.natAbs : Nat) : Int) := by
      simp [IntKind.wrap, IntKind.bits, IntKind.signed]
      omega
    (repeat refine Ex.assoc ?_); refine Ex.step (m := 0) (by simp (config := {decide := true}) only [RS, Nat.reduceAdd, g0, tU64, tI64, w1]; rfl) ?_
    refine Ex.ret ⟨trivial, _, by simp (config := {decide := true}) only [RS, Nat.reduceAdd]; rfl, ?_, rfl⟩
    simp (config := {decide := true}) only [RS, Nat.reduceAdd]
/-! ### hooks -/
mutual
/-- Values that name no block. -/
def AV.free : AV → Bool
  | .bool _ | .int _ _ | .str _ | .nilp | .nils | .nilf | .nili | .nilm | .opq _ => true
  | .iface _ x => AV.free x
  | .func _ l | .agg l | .tup l => freeL l
  | _ => false
def freeL : List AV → Bool
  | [] => true
  | a :: l => AV.free a && freeL l
end
mutual
theorem VR.free {c c' : Cx} (hw : c'.w = c.w) (hz : ∀ k, c.Z k → c'.Z k) : ∀ {v : AV} {x : Value}, v.free = true → VR c v x → VR c' v x
  | .bool _, _, _, h | .int _ _, _, _, h | .str _, _, _, h | .nilp, _, _, h | .nils, _, _, h | .nilf, _, _, h | .nili, _, _, h | .nilm, _, _, h => by simpa only [VR] using h
  | .opq o, _, _, h => by
    simp only [VR] at h ⊢
    exact RO.mono (fun k hk => ⟨hz k hk, by rw [hw]⟩) h
  | .iface t x, y, hf, h => by
    simp only [AV.free] at hf
    simp only [VR] at h ⊢
    obtain ⟨z, rfl, hy⟩ := h
    exact ⟨z, rfl, VR.free hw hz hf hy⟩
  | .func f l, y, hf, h => by
    simp only [AV.free] at hf
    simp only [VR] at h ⊢
    obtain ⟨z, rfl, hy⟩ := h
    exact ⟨z, rfl, VRL.free hw hz hf hy⟩
  | .agg l, y, hf, h => by
    simp only [AV.free] at hf
    simp only [VR] at h ⊢
    obtain ⟨z, rfl, hy⟩ := h
    exact ⟨z, rfl, VRL.free hw hz hf hy⟩
  | .tup l, y, hf, h => by
    simp only [AV.free] at hf
    simp only [VR] at h ⊢
    obtain ⟨z, rfl, hy⟩ := h
    exact ⟨z, rfl, VRL.free hw hz hf hy⟩
  | .undef, _, hf, _ | .ptr _ _, _, hf, _ | .slice _ _ _ _ _ _, _, hf, _ | .empty, _, hf, _ | .map _, _, hf, _ => by simp [AV.free] at hf
theorem VRL.free {c c' : Cx} (hw : c'.w = c.w) (hz : ∀ k, c.Z k → c'.Z k) : ∀ {vs : List AV} {xs : List Value}, freeL vs = true → VRL c vs xs → VRL c' vs xs
  | [], _, _, h => h
  | a :: l, xs, hf, h => by
    simp only [freeL, Bool.and_eq_true] at hf
    simp only [VRL] at h ⊢
    obtain ⟨y, ys, e, h1, h2⟩ := h
    exact ⟨y, ys, e, VR.free hw hz hf.1 h1, VRL.free hw hz hf.2 h2⟩
end
theorem closes_free {c c2 : Cx} {h h2 h' : Hp} {v : AV} (hf : v.free = true) : Closes c h c2 h2 h' v v :=
  ⟨[], by simp, fun c' x _ _ hx => VR.free (c := c') (c' := c.close c' []) rfl (fun k hk => .inl hk) hf hx⟩
/-- A run that leaves the heap as it was, and tells a value that names no block. -/
theorem pure_free {hk : Hooks} (hk1 : CallOK Tryz.prog hk) (hk2 : DomOK hk) {f : FuncId} {args : List AV} {h : Hp} {r : AV} (hfr : r.free = true) (H : h.fr → ExF Tryz.prog hk f args h fun r' h1 => r' = r ∧ h.sub h1) : PureOK Tryz.prog f args h r := by
  intro c vs hr hgl hv
  refine pure_of_run prog_mixed hk1 hk2 hr hgl (Opens.refl hr) hv ?_
  obtain ⟨n, r', h1, q1, rfl, q2⟩ := H hr.fr
  exact ⟨n, _, h1, q1, q2, closes_free hfr⟩
def absOk (x : Int) : Bool := decide (-9223372036854775808 ≤ x) && decide (x < 9223372036854775808)
def gP : FuncId → List AV → Hp → Option AV := fun f args h =>
  if f = 80 then match args with
    | [.opq (.frac s n d)] => some (.tup [.bool s, .opq (.nat n), .opq (.nat d)])
    | [.nilp] => some (.tup [.bool false, .opq (.nat 0), .opq (.nat 1)])
    | _ => none
  else if f = 89 then match args with
    | [.opq (.nat a)] => if Nat.log2 a < 100000000000 then some (.bool (Nat.beq a 0)) else none
    | _ => none
  else if f = 76 then match args with
    | [.int .i64 x] => if absOk x = true then some (.int .u64 (x.natAbs : Nat)) else none
    | _ => none
  else none
theorem Rel.lt_nx {c : Cx} {h : Hp} (hr : Rel c h) {b : Nat} {x : Blk} (hb : h.m.get b = some x) : b < h.nx := by
  by_cases hlt : b < h.nx
  · exact hlt
  · have := hr.fr b (by omega)
    rw [this] at hb; cases hb
theorem gP_ok : ∀ f args h r, gP f args h = some r → PureOK Tryz.prog f args h r := by
  intro f args h r hh c vs hr hgl hv
  unfold gP at hh
  split at hh
  · rename_i hf
    subst hf
    split at hh
    · rename_i s n d
      injection hh with hh; subst hh
      have hv' := hv
      simp only [VRL] at hv'
      obtain ⟨x, xs, e1, hx, rfl⟩ := hv'
      obtain ⟨c2, h2, b, v0, ho, k1, k2, k3, k4⟩ := open_frac hr hx
      refine pure_of_run prog_mixed hkN_ok hkN_dom hr hgl ho (args2 := [.ptr b 0]) (by simp only [VRL]; exact ⟨x, [], e1, k1, rfl⟩) ?_
      rcases h2 with ⟨M, N⟩
      obtain ⟨n, r', h1, q1, rfl, q2⟩ := parts_run (hk := hkN) (fun _ _ => rfl) k2 (ho.rel.lt_nx k2)
      exact ⟨n, _, h1, q1, fun b x hb => by rw [q2]; exact ho.sub _ _ hb, closes_old ho k4⟩
    · injection hh with hh; subst hh
      refine pure_of_run prog_mixed hkN_ok hkN_dom hr hgl (Opens.refl hr) hv ?_
      obtain ⟨n, r', h1, q1, rfl, q2⟩ := parts_nil natHkN (fun _ _ => rfl)
      exact ⟨n, _, h1, q1, fun b x hb => by rw [q2]; exact hb, closes_free rfl⟩
    · cases hh
  split at hh
  · rename_i hf
    subst hf
    split at hh
    · rename_i a
      split at hh
      · rename_i ha
        injection hh with hh; subst hh
        refine pure_of_run prog_mixed hkN_ok hkN_dom hr hgl (Opens.refl hr) hv ?_
        obtain ⟨n, r', h1, q1, rfl, q2⟩ := zero_run natHkN (fun _ _ => rfl) ha
        exact ⟨n, _, h1, q1, same_pure (Opens.refl hr) q2 rfl⟩
      · cases hh
    · cases hh
  split at hh
  · rename_i hf
    subst hf
    split at hh
    · rename_i x
      split at hh
      · rename_i ha
        injection hh with hh; subst hh
        simp only [absOk, Bool.and_eq_true, decide_eq_true_eq] at ha
        refine pure_of_run prog_mixed hkN_ok hkN_dom hr hgl (Opens.refl hr) hv ?_
        obtain ⟨n, r', h1, q1, rfl, q2⟩ := abs_run (hk := hkN) (fun _ _ => rfl) ha.1 ha.2
        exact ⟨n, _, h1, q1, same_pure (Opens.refl hr) q2 rfl⟩
      · cases hh
    · cases hh
  cases hh
end Go.Vk
set_option linter.unusedSimpArgs false
set_option linter.unusedVariables false
set_option maxRecDepth 100000
set_option maxHeartbeats 4000000
namespace Go.Vk
open Go.Proofs (Tryz.prog)
def Sub (a b : Hooks) : Prop := ∀ f args h r, a f args h = some r → b f args h = some r
theorem Sub.left {a b : Hooks} : Sub a (orHk a b) := fun f args h r hh => orHk_left hh
theorem NatHk.sub {a b : Hooks} (S : Sub a b) (G : GrowOK b) (B : NatHk a) : NatHk b :=
  ⟨G, fun ha => S _ _ _ _ (B.bits ha), fun ha hb => S _ _ _ _ (B.gcd ha hb), fun ha hb h0 => S _ _ _ _ (B.div ha hb h0), fun ha hp => S _ _ _ _ (B.text ha hp), S _ _ _ _ B.ofn, fun ht => S _ _ _ _ (B.trim ht), fun ht => S _ _ _ _ (B.parse ht), fun ha => S _ _ _ _ (B.Of ha),
    fun ha hb => S _ _ _ _ (B.less ha hb), fun ha hb => S _ _ _ _ (B.cmp ha hb), fun ha hb => S _ _ _ _ (B.add ha hb), fun ha hb => S _ _ _ _ (B.mul ha hb)⟩
structure FrHk (hk : Hooks) : Prop extends NatHk hk where
  parts : ∀ {h : Hp} {s : Bool} {n d : Nat}, hk 80 [.opq (.frac s n d)] h = some (.tup [.bool s, .opq (.nat n), .opq (.nat d)], h)
  partsN : ∀ {h : Hp}, hk 80 [.nilp] h = some (.tup [.bool false, .opq (.nat 0), .opq (.nat 1)], h)
  zero : ∀ {h : Hp} {a : Nat}, szOk a → hk 89 [.opq (.nat a)] h = some (.bool (Nat.beq a 0), h)
  abs : ∀ {h : Hp} {x : Int}, absOk x = true → hk 76 [.int .i64 x] h = some (.int .u64 (x.natAbs : Nat), h)
theorem FrHk.sub {a b : Hooks} (S : Sub a b) (G : GrowOK b) (B : FrHk a) : FrHk b :=
  { B.toNatHk.sub S G with
    parts := S _ _ _ _ B.parts
    partsN := S _ _ _ _ B.partsN
    zero := fun ha => S _ _ _ _ (B.zero ha)
    abs := fun ha => S _ _ _ _ (B.abs ha) }
abbrev hkP : Hooks := orHk hkN (pureHk gP)
theorem hkP_ok : CallOK Tryz.prog hkP := orHk_ok hkN_ok (pureHk_ok gP_ok)
theorem hkP_dom : DomOK hkP := orHk_dom hkN_dom pureHk_dom
theorem hkP_grow : GrowOK hkP := orHk_grow hkN_grow pureHk_grow
theorem gP_hkP {f : FuncId} {args : List AV} {h : Hp} {r : AV} (h0 : hkN f args h = none) (h1 : gP f args h = some r) : hkP f args h = some (r, h) :=
  (orHk_right h0).trans (pureHk_some h1)
theorem frHkP : FrHk hkP := { natHkN.sub Sub.left hkP_grow with
  parts := gP_hkP rfl (by unfold gP; rw [if_pos rfl])
  partsN := gP_hkP rfl (by unfold gP; rw [if_pos rfl])
  zero := fun ha => gP_hkP rfl (by unfold gP; rw [if_neg (by decide), if_pos rfl]; exact if_pos ha)
  abs := fun ha => gP_hkP rfl (by unfold gP; rw [if_neg (by decide), if_neg (by decide), if_pos rfl]; exact if_pos ha) }
theorem cmpN_one {g : Nat} : (cmpN g 1 == 0) = Nat.beq g 1 := by
  unfold cmpN
  by_cases h : g = 1
  · subst h; rfl
  · have h2 : Nat.beq g 1 = false := by rw [← Bool.not_eq_true, Nat.beq_eq]; exact h
    rw [h2]
    split
    · rfl
    · split
      · rfl
      · omega
theorem pFrac : placesT Tryz.prog 135 = some [(0, 1), (1, 1), (2, 1)] := by kernel_rfl
theorem zFrac : zeroT Tryz.prog 135 = some [.bool false, .nilp, .nilp] := by kernel_rfl
theorem bFrac {a b c : AV} (ha : a.one = true) : True := trivial
def mkS (s : Bool) (n d : Nat) : Bool := s && !(Nat.beq (n / Nat.gcd n d) 0)
def mkF (s : Bool) (n d : Nat) : Opq := .frac (mkS s n d) (n / Nat.gcd n d) (d / Nat.gcd n d)
theorem szOk_div {n g : Nat} (h : szOk n) : szOk (n / g) := by
  unfold szOk at *
  by_cases h0 : n / g = 0
  · rw [h0]; decide
  · have hn : n ≠ 0 := fun e => by subst e; simp at h0
    have h1 := Nat.lt_log2_self (n := n)
    have : n / g < 2 ^ (Nat.log2 n + 1) := Nat.lt_of_le_of_lt (Nat.div_le_self _ _) h1
    have := (Nat.log2_lt h0).2 this
    omega
theorem szOk_gcd {n d : Nat} (h : szOk d) (hd : d ≠ 0) : szOk (Nat.gcd n d) := by
  unfold szOk at *
  have h1 : Nat.gcd n d ≠ 0 := fun e => hd (Nat.gcd_eq_zero_iff.1 e).2
  have h2 : Nat.gcd n d ≤ d := Nat.gcd_le_right _ (by omega)
  have h3 := Nat.lt_log2_self (n := d)
  have := (Nat.log2_lt h1).2 (Nat.lt_of_le_of_lt h2 h3)
  omega
theorem sub_set {h : Hp} {b nx : Nat} {x : Blk} (hb : h.m.get b = none) : h.sub ⟨h.m.set b x, nx⟩ := fun a y ha => by
  simp only [PT.get_set]
  rw [if_neg]
  · exact ha
  · intro e; rw [e, hb] at ha; cases ha
theorem fn_new : fnE Tryz.prog 95 = some ⟨(Go.Proofs.Tryz.f95.body).getD .skip, 45, [.tmp 6, .tmp 7]⟩ := by kernel_rfl
theorem new_run {hk : Hooks} (B : FrHk hk) (hn : ∀ a h, hk 95 a h = none) {h : Hp} (hf : h.fr) {s : Bool} {n d : Nat} (sn : szOk n) (sd : szOk d) :
    ExF Tryz.prog hk 95 [.bool s, .opq (.nat n), .opq (.nat d)] h fun r' h1 => h.sub h1 ∧ if d = 0 then r' = .tup [.nilp, .bool false] else
      ∃ b, r' = .tup [.ptr b 0, .bool true] ∧ h.m.get b = none ∧ h1.m.get b = some (.row [.bool (mkS s n d), .opq (.nat (n / Nat.gcd n d)), .opq (.nat (d / Nat.gcd n d))] false) := by
  refine ExF.body fn_new (hn _ _) (by simp) ?_
  simp only [Go.Proofs.Tryz.f95, Option.getD_some]
  have cz : ∀ a, szOk a → ∀ m nx, callF Tryz.prog hk m 89 [.opq (.nat a)] ⟨h.m, nx⟩ = some (.bool (Nat.beq a 0), ⟨h.m, nx⟩) := fun a ha m nx => callF_hk (B.zero ha)
  have czd := cz d sd
  (repeat refine Ex.assoc ?_); refine Ex.step (m := 0) (by simp (config := {decide := true}) only [RS, Nat.reduceAdd]; rfl) ?_
  refine Ex.forget fun E hE => ?_; have k0 := hE 0; simp (config := {decide := true}) only [RS, Nat.reduceAdd] at k0; have k1 := hE 1; simp (config := {decide := true}) only [RS, Nat.reduceAdd] at k1; have k2 := hE 2; simp (config := {decide := true}) only [RS, Nat.reduceAdd] at k2; clear hE; have g0 := k0; clear k0; have g1 := k1; clear k1; have g2 := k2; clear k2
  (repeat refine Ex.assoc ?_); refine Ex.step (m := 0) (by simp (config := {decide := true}) only [RS, Nat.reduceAdd, g2, fn_zero, czd]; rfl) ?_
  refine Ex.forget fun E hE => ?_; have k0 := hE 0; simp (config := {decide := true}) only [RS, Nat.reduceAdd, g0, g1, g2] at k0; have k1 := hE 1; simp (config := {decide := true}) only [RS, Nat.reduceAdd, g0, g1, g2] at k1; have k2 := hE 2; simp (config := {decide := true}) only [RS, Nat.reduceAdd, g0, g1, g2] at k2; have k10 := hE 10; simp (config := {decide := true}) only [RS, Nat.reduceAdd, g0, g1, g2] at k10; clear hE g0 g1 g2; have g0 := k0; clear k0; have g1 := k1; clear k1; have g2 := k2; clear k2; have g10 := k10; clear k10
  by_cases hd : d = 0
  · subst hd
    refine Ex.ifT (by simp (config := {decide := true}) only [RS, Nat.reduceAdd, g10] <;> rfl) ?_
    (repeat refine Ex.assoc ?_); refine Ex.step (m := 0) (by simp (config := {decide := true}) only [RS, Nat.reduceAdd]; rfl) ?_
    refine Ex.retS ⟨trivial, _, by simp (config := {decide := true}) only [RS, Nat.reduceAdd]; rfl, fun b x hb => hb, ?_⟩
    simp (config := {decide := true}) only [RS, Nat.reduceAdd]
  have hd0 : Nat.beq d 0 = false := by rw [← Bool.not_eq_true, Nat.beq_eq]; exact hd
  rw [hd0] at g10
  refine Ex.ifF (by simp (config := {decide := true}) only [RS, Nat.reduceAdd, g10] <;> rfl) (Ex.skipS ?_)
  obtain ⟨g, hg⟩ : ∃ g, g = Nat.gcd n d := ⟨_, rfl⟩
  have sg : szOk g := by rw [hg]; exact szOk_gcd sd hd
  have hg0 : 0 < g := by rw [hg]; exact Nat.gcd_pos_of_pos_right _ (by omega)
  have cg : ∀ m nx, callF Tryz.prog hk m 135 [.opq (.nat n), .opq (.nat d)] ⟨h.m, nx⟩ = some (.opq (.nat g), ⟨h.m, nx⟩) := fun m nx => by rw [hg]; exact callF_hk (B.gcd sn sd)
  have c1 : ∀ m nx, callF Tryz.prog hk m 75 [.int .u64 1] ⟨h.m, nx⟩ = some (.opq (.nat 1), ⟨h.m, nx⟩) := fun m nx => callF_hk (B.Of (a := 1) (by omega))
  have cc : ∀ m nx, callF Tryz.prog hk m 92 [.opq (.nat g), .opq (.nat 1)] ⟨h.m, nx⟩ = some (.int .i64 (cmpN g 1), ⟨h.m, nx⟩) := fun m nx => callF_hk (B.cmp sg (by unfold szOk; decide))
  have cd1 : ∀ m nx, callF Tryz.prog hk m 136 [.opq (.nat n), .opq (.nat g)] ⟨h.m, nx⟩ = some (.tup [.opq (.nat (n / g)), .opq (.nat (n % g)), .bool true], ⟨h.m, nx⟩) := fun m nx => callF_hk (B.div sn sg hg0)
  have cd2 : ∀ m nx, callF Tryz.prog hk m 136 [.opq (.nat d), .opq (.nat g)] ⟨h.m, nx⟩ = some (.tup [.opq (.nat (d / g)), .opq (.nat (d % g)), .bool true], ⟨h.m, nx⟩) := fun m nx => callF_hk (B.div sd sg hg0)
  (repeat refine Ex.assoc ?_); refine Ex.step (m := 0) (by simp (config := {decide := true}) only [RS, Nat.reduceAdd, g1, g2, fn_gcd, cg]; rfl) ?_
  refine Ex.forget fun E hE => ?_; have k0 := hE 0; simp (config := {decide := true}) only [RS, Nat.reduceAdd, g0, g1, g2, g10] at k0; have k1 := hE 1; simp (config := {decide := true}) only [RS, Nat.reduceAdd, g0, g1, g2, g10] at k1; have k2 := hE 2; simp (config := {decide := true}) only [RS, Nat.reduceAdd, g0, g1, g2, g10] at k2; have k8 := hE 8; simp (config := {decide := true}) only [RS, Nat.reduceAdd, g0, g1, g2, g10] at k8; clear hE g0 g1 g2 g10; have g0 := k0; clear k0; have g1 := k1; clear k1; have g2 := k2; clear k2; have g8 := k8; clear k8
  (repeat refine Ex.assoc ?_); refine Ex.step (m := 0) (by simp (config := {decide := true}) only [RS, Nat.reduceAdd, g8, fn_Of, c1, fn_cmp, cc, cmpN_one]; rfl) ?_
  refine Ex.forget fun E hE => ?_; have k0 := hE 0; simp (config := {decide := true}) only [RS, Nat.reduceAdd, g0, g1, g2, g8] at k0; have k1 := hE 1; simp (config := {decide := true}) only [RS, Nat.reduceAdd, g0, g1, g2, g8] at k1; have k2 := hE 2; simp (config := {decide := true}) only [RS, Nat.reduceAdd, g0, g1, g2, g8] at k2; have k8 := hE 8; simp (config := {decide := true}) only [RS, Nat.reduceAdd, g0, g1, g2, g8] at k8; have k17 := hE 17; simp (config := {decide := true}) only [RS, Nat.reduceAdd, g0, g1, g2, g8] at k17; clear hE g0 g1 g2 g8; have g0 := k0; clear k0; have g1 := k1; clear k1; have g2 := k2; clear k2; have g8 := k8; clear k8; have g17 := k17; clear k17
  (repeat refine Ex.assoc ?_)
  refine Ex.cut (fun env h' => env.get 0 = some (.bool s) ∧ env.get 1 = some (.opq (.nat (n / g))) ∧ env.get 2 = some (.opq (.nat (d / g))) ∧ h'.m = h.m ∧ h.nx ≤ h'.nx) ?_ ?_
  · by_cases h1 : g = 1
    · have hb : Nat.beq g 1 = true := by rw [Nat.beq_eq]; exact h1
      rw [hb] at g17
      refine Ex.cond_false (by simp (config := {decide := true}) only [RS, Nat.reduceAdd, g17] <;> rfl) (Ex.skip ?_)
      simp (config := {decide := true}) only [thenK, blockK, ite_true, ite_false, if_true, if_false]
      exact ⟨g0, by rw [h1, Nat.div_one]; exact g1, by rw [h1, Nat.div_one]; exact g2, by trivial, (by first | omega | (simp only [Nat.add_assoc]; omega) | (dsimp only; omega))⟩
    · have hb : Nat.beq g 1 = false := by rw [← Bool.not_eq_true, Nat.beq_eq]; exact h1
      rw [hb] at g17
      refine Ex.cond_true (by simp (config := {decide := true}) only [RS, Nat.reduceAdd, g17] <;> rfl) ?_
      (repeat refine Ex.assoc ?_); refine Ex.step (m := 0) (by simp (config := {decide := true}) only [RS, Nat.reduceAdd, g1, g8, fn_div, cd1]; rfl) ?_
      refine Ex.forget fun E hE => ?_; have k0 := hE 0; simp (config := {decide := true}) only [RS, Nat.reduceAdd, g0, g1, g2, g8, g17] at k0; have k1 := hE 1; simp (config := {decide := true}) only [RS, Nat.reduceAdd, g0, g1, g2, g8, g17] at k1; have k2 := hE 2; simp (config := {decide := true}) only [RS, Nat.reduceAdd, g0, g1, g2, g8, g17] at k2; have k8 := hE 8; simp (config := {decide := true}) only [RS, Nat.reduceAdd, g0, g1, g2, g8, g17] at k8; clear hE g0 g1 g2 g8 g17; have g0 := k0; clear k0; have g1 := k1; clear k1; have g2 := k2; clear k2; have g8 := k8; clear k8
      refine Ex.last (m := 0) (by simp (config := {decide := true}) only [RS, Nat.reduceAdd, g2, g8, fn_div, cd2]; rfl) ?_
      simp (config := {decide := true}) only [thenK, blockK, ite_true, ite_false, if_true, if_false]
      exact ⟨by simp (config := {decide := true}) only [RS, Nat.reduceAdd, g0], by simp (config := {decide := true}) only [RS, Nat.reduceAdd, g1], by simp (config := {decide := true}) only [RS, Nat.reduceAdd], by trivial, (by first | omega | (simp only [Nat.add_assoc]; omega) | (dsimp only; omega))⟩
  clear g0 g1 g2 g8 g17
  rintro env ⟨M0, N0⟩ ⟨g0, g1, g2, e1, e2⟩
  dsimp only at e1 e2
  subst e1
  (repeat refine Ex.assoc ?_); refine Ex.step (m := 0) (by simp (config := {decide := true}) only [RS, Nat.reduceAdd, g1, aEq, tNatP]; rfl) ?_
  refine Ex.forget fun E hE => ?_; have k0 := hE 0; simp (config := {decide := true}) only [RS, Nat.reduceAdd, g0, g1, g2] at k0; have k1 := hE 1; simp (config := {decide := true}) only [RS, Nat.reduceAdd, g0, g1, g2] at k1; have k2 := hE 2; simp (config := {decide := true}) only [RS, Nat.reduceAdd, g0, g1, g2] at k2; have k33 := hE 33; simp (config := {decide := true}) only [RS, Nat.reduceAdd, g0, g1, g2] at k33; clear hE g0 g1 g2; have g0 := k0; clear k0; have g1 := k1; clear k1; have g2 := k2; clear k2; have g33 := k33; clear k33
  refine Ex.ifF (by simp (config := {decide := true}) only [RS, Nat.reduceAdd, g33] <;> rfl) (Ex.skipS ?_)
  have cz1 := cz (n / g) (szOk_div sn)
  have hfr : h.m.get (N0 + 2 + 9) = none := hf _ (by omega)
  cases s with
  | true =>
    (repeat refine Ex.assoc ?_); refine Ex.step (m := 0) (by simp (config := {decide := true}) only [RS, Nat.reduceAdd, g0, g1, g2, fn_zero, cz1, pFrac, zFrac, fillA, List.take_zero, List.take_succ_cons, List.drop_zero, List.drop_succ_cons, fresh, hfr]; rfl) ?_
    refine Ex.ret ⟨trivial, _, by simp (config := {decide := true}) only [RS, Nat.reduceAdd]; rfl, sub_set hfr, ?_⟩
    rw [if_neg hd]
    refine ⟨N0 + 11, by simp (config := {decide := true}) only [RS, Nat.reduceAdd], hfr, ?_⟩
    have hS : mkS true n d = !(Nat.beq (n / g) 0) := by unfold mkS; rw [← hg]; rfl
    simp only [PT.get_set, if_true]
    rw [← hg, hS]
  | false =>
    (repeat refine Ex.assoc ?_); refine Ex.step (m := 0) (by simp (config := {decide := true}) only [RS, Nat.reduceAdd, g0, g1, g2, pFrac, zFrac, fillA, List.take_zero, List.take_succ_cons, List.drop_zero, List.drop_succ_cons, fresh, hfr]; rfl) ?_
    refine Ex.ret ⟨trivial, _, by simp (config := {decide := true}) only [RS, Nat.reduceAdd]; rfl, sub_set hfr, ?_⟩
    rw [if_neg hd]
    refine ⟨N0 + 11, by simp (config := {decide := true}) only [RS, Nat.reduceAdd], hfr, ?_⟩
    simp only [PT.get_set, if_true]
    rw [← hg]
    rfl
/-! ### whole numbers; the other sign -/
theorem fn_fOf : fnE Tryz.prog 36 = some ⟨(Go.Proofs.Tryz.f36.body).getD .skip, 11, [.tmp 2]⟩ := by kernel_rfl
theorem fOf_run {hk : Hooks} (B : FrHk hk) (hn : ∀ a h, hk 36 a h = none) {h : Hp} (hf : h.fr) {x : Int} (hx : absOk x = true) :
    ExF Tryz.prog hk 36 [.int .i64 x] h fun r' h1 => h.sub h1 ∧ ∃ b, r' = .ptr b 0 ∧ h.m.get b = none ∧ h1.m.get b = some (.row [.bool (decide (x < 0)), .opq (.nat x.natAbs), .opq (.nat 1)] false) := by
  refine ExF.body fn_fOf (hn _ _) (by simp) ?_
  simp only [Go.Proofs.Tryz.f36, Option.getD_some]
  have hxl : x.natAbs < 18446744073709551616 := by
    simp only [absOk, Bool.and_eq_true, decide_eq_true_eq] at hx
    omega
  have ca : ∀ m nx, callF Tryz.prog hk m 76 [.int .i64 x] ⟨h.m, nx⟩ = some (.int .u64 (x.natAbs : Nat), ⟨h.m, nx⟩) := fun m nx => callF_hk (B.abs hx)
  have cO : ∀ m nx, callF Tryz.prog hk m 75 [.int .u64 (x.natAbs : Nat)] ⟨h.m, nx⟩ = some (.opq (.nat x.natAbs), ⟨h.m, nx⟩) := fun m nx => callF_hk (B.Of hxl)
  have c1 : ∀ m nx, callF Tryz.prog hk m 75 [.int .u64 1] ⟨h.m, nx⟩ = some (.opq (.nat 1), ⟨h.m, nx⟩) := fun m nx => callF_hk (B.Of (a := 1) (by omega))
  have hfr : h.m.get (h.nx + 1 + 7) = none := hf _ (by omega)
  (repeat refine Ex.assoc ?_); refine Ex.step (m := 0) (by simp (config := {decide := true}) only [RS, Nat.reduceAdd]; rfl) ?_
  refine Ex.forget fun E hE => ?_; have k0 := hE 0; simp (config := {decide := true}) only [RS, Nat.reduceAdd] at k0; clear hE; have g0 := k0; clear k0
  (repeat refine Ex.assoc ?_); refine Ex.step (m := 0) (by simp (config := {decide := true}) only [RS, Nat.reduceAdd, g0, fn_abs, ca, fn_Of, cO, c1, pFrac, zFrac, fillA, List.take_zero, List.take_succ_cons, List.drop_zero, List.drop_succ_cons, fresh, hfr]; rfl) ?_
  refine Ex.ret ⟨trivial, _, by simp (config := {decide := true}) only [RS, Nat.reduceAdd]; rfl, sub_set hfr, h.nx + 8, by simp (config := {decide := true}) only [RS, Nat.reduceAdd], hfr, ?_⟩
  simp only [PT.get_set, if_true]
theorem fn_neg : fnE Tryz.prog 64 = some ⟨(Go.Proofs.Tryz.f64.body).getD .skip, 23, [.tmp 2]⟩ := by kernel_rfl
/-- A fraction of the zone, or none. -/
def frV : AV → Option (Bool × Nat × Nat)
  | .opq (.frac s n d) => some (s, n, d)
  | .nilp => some (false, 0, 1)
  | _ => none
theorem frV_ok {c : Cx} {v : AV} {x : Value} (hv : VR c v x) {s : Bool} {n d : Nat} (h : frV v = some (s, n, d)) : frOk s n d := by
  unfold frV at h
  split at h
  · injection h with h; injection h with h1 h2; injection h2 with h2 h3; subst h1; subst h2; subst h3
    simp only [VR, RO] at hv
    exact hv.1
  · injection h with h; injection h with h1 h2; injection h2 with h2 h3; subst h1; subst h2; subst h3
    exact ⟨by omega, by simp, fun _ => rfl⟩
  · cases h
theorem FrHk.partsV {hk : Hooks} (B : FrHk hk) {v : AV} {s : Bool} {n d : Nat} (hv : frV v = some (s, n, d)) {h : Hp} : hk 80 [v] h = some (.tup [.bool s, .opq (.nat n), .opq (.nat d)], h) := by
  unfold frV at hv
  split at hv
  · injection hv with h; injection h with h1 h2; injection h2 with h2 h3; subst h1; subst h2; subst h3
    exact B.parts
  · injection hv with h; injection h with h1 h2; injection h2 with h2 h3; subst h1; subst h2; subst h3
    exact B.partsN
  · cases hv
theorem neg_run {hk : Hooks} (B : FrHk hk) (hn : ∀ a h, hk 64 a h = none) {h : Hp} (hf : h.fr) {v : AV} {s : Bool} {n d : Nat} (hv : frV v = some (s, n, d)) (sn : szOk n) :
    ExF Tryz.prog hk 64 [v] h fun r' h1 => h.sub h1 ∧ ∃ b, r' = .ptr b 0 ∧ h.m.get b = none ∧ h1.m.get b = some (.row [.bool (!s && !(Nat.beq n 0)), .opq (.nat n), .opq (.nat d)] false) := by
  refine ExF.body fn_neg (hn _ _) (by simp) ?_
  simp only [Go.Proofs.Tryz.f64, Option.getD_some]
  have cp : ∀ m nx, callF Tryz.prog hk m 80 [v] ⟨h.m, nx⟩ = some (.tup [.bool s, .opq (.nat n), .opq (.nat d)], ⟨h.m, nx⟩) := fun m nx => callF_hk (B.partsV hv)
  have cz : ∀ m nx, callF Tryz.prog hk m 89 [.opq (.nat n)] ⟨h.m, nx⟩ = some (.bool (Nat.beq n 0), ⟨h.m, nx⟩) := fun m nx => callF_hk (B.zero sn)
  have hfr : h.m.get (h.nx + 1 + 9 + 10) = none := hf _ (by omega)
  (repeat refine Ex.assoc ?_); refine Ex.step (m := 0) (by simp (config := {decide := true}) only [RS, Nat.reduceAdd]; rfl) ?_
  refine Ex.forget fun E hE => ?_; have k0 := hE 0; simp (config := {decide := true}) only [RS, Nat.reduceAdd] at k0; clear hE; have g0 := k0; clear k0
  (repeat refine Ex.assoc ?_); refine Ex.step (m := 0) (by simp (config := {decide := true}) only [RS, Nat.reduceAdd, g0, fn_parts, cp]; rfl) ?_
  refine Ex.forget fun E hE => ?_; have k3 := hE 3; simp (config := {decide := true}) only [RS, Nat.reduceAdd, g0] at k3; have k4 := hE 4; simp (config := {decide := true}) only [RS, Nat.reduceAdd, g0] at k4; have k5 := hE 5; simp (config := {decide := true}) only [RS, Nat.reduceAdd, g0] at k5; clear hE g0; have g3 := k3; clear k3; have g4 := k4; clear k4; have g5 := k5; clear k5
  cases s with
  | true =>
    (repeat refine Ex.assoc ?_); refine Ex.step (m := 0) (by simp (config := {decide := true}) only [RS, Nat.reduceAdd, g3, g4, g5, pFrac, zFrac, fillA, List.take_zero, List.take_succ_cons, List.drop_zero, List.drop_succ_cons, fresh, hfr]; rfl) ?_
    refine Ex.ret ⟨trivial, _, by simp (config := {decide := true}) only [RS, Nat.reduceAdd]; rfl, sub_set hfr, h.nx + 20, by simp (config := {decide := true}) only [RS, Nat.reduceAdd], hfr, ?_⟩
    simp only [PT.get_set, if_true]
    rfl
  | false =>
    (repeat refine Ex.assoc ?_); refine Ex.step (m := 0) (by simp (config := {decide := true}) only [RS, Nat.reduceAdd, g3, g4, g5, fn_zero, cz, pFrac, zFrac, fillA, List.take_zero, List.take_succ_cons, List.drop_zero, List.drop_succ_cons, fresh, hfr]; rfl) ?_
    refine Ex.ret ⟨trivial, _, by simp (config := {decide := true}) only [RS, Nat.reduceAdd]; rfl, sub_set hfr, h.nx + 20, by simp (config := {decide := true}) only [RS, Nat.reduceAdd], hfr, ?_⟩
    simp only [PT.get_set, if_true]
    rfl
end Go.Vk
set_option linter.unusedSimpArgs false
set_option linter.unusedVariables false
set_option maxRecDepth 100000
set_option maxHeartbeats 4000000
namespace Go.Vk
open Go.Proofs (Tryz.prog)
def szB (n : Nat) : Bool := Nat.blt (Nat.log2 n) 100000000000
theorem szB_iff {n : Nat} : szB n = true ↔ szOk n := by unfold szB szOk; rw [Nat.blt_eq]
def gW : FuncId → List AV → Hp → Option AV := fun f args h =>
  if f = 95 then match args with
    | [.bool s, .opq (.nat n), .opq (.nat d)] => if (szB n && szB d) = true then some (if d = 0 then .tup [.nilp, .bool false] else .tup [.opq (mkF s n d), .bool true]) else none
    | _ => none
  else if f = 36 then match args with
    | [.int .i64 x] => if absOk x = true then some (.opq (.frac (decide (x < 0)) x.natAbs 1)) else none
    | _ => none
  else if f = 64 then match args with
    | [v] => match frV v with
      | some (s, n, d) => if szB n = true then some (.opq (.frac (!s && !(Nat.beq n 0)) n d)) else none
      | none => none
    | _ => none
  else none
theorem mkF_ok {s : Bool} {n d : Nat} (hd : d ≠ 0) : frOk (mkS s n d) (n / Nat.gcd n d) (d / Nat.gcd n d) := by
  have hg : 0 < Nat.gcd n d := Nat.gcd_pos_of_pos_right _ (by omega)
  refine ⟨Nat.div_pos (Nat.gcd_le_right _ (by omega)) hg, Nat.coprime_div_gcd_div_gcd hg, fun h0 => ?_⟩
  unfold mkS
  rw [h0]
  simp
theorem gW_ok : ∀ f args h r, gW f args h = some r → PureOK Tryz.prog f args h r := by
  intro f args h r hh c vs hr hgl hv
  unfold gW at hh
  split at hh
  · rename_i hf
    subst hf
    split at hh
    · rename_i s n d
      split at hh
      · rename_i hz
        rw [Bool.and_eq_true, szB_iff, szB_iff] at hz
        injection hh with hh; subst hh
        refine pure_of_run prog_mixed hkP_ok hkP_dom hr hgl (Opens.refl hr) hv ?_
        obtain ⟨m, r', h1, q1, q2, q3⟩ := new_run frHkP (fun _ _ => rfl) hr.fr (s := s) hz.1 hz.2
        split at q3
        · rename_i h0
          subst q3
          rw [if_pos h0]
          exact ⟨m, _, h1, q1, q2, closes_free rfl⟩
        · rename_i h0
          obtain ⟨b, rfl, q4, q5⟩ := q3
          rw [if_neg h0]
          exact ⟨m, _, h1, q1, q2, closes_pair (close_frac q5 rfl q4 (mkF_ok h0))⟩
      · cases hh
    · cases hh
  split at hh
  · rename_i hf
    subst hf
    split at hh
    · rename_i x
      split at hh
      · rename_i hx
        injection hh with hh; subst hh
        refine pure_of_run prog_mixed hkP_ok hkP_dom hr hgl (Opens.refl hr) hv ?_
        obtain ⟨m, r', h1, q1, q2, b, rfl, q4, q5⟩ := fOf_run frHkP (fun _ _ => rfl) hr.fr hx
        exact ⟨m, _, h1, q1, q2, close_frac q5 rfl q4 ⟨by omega, by simp, fun h0 => by
          have : x = 0 := by omega
          rw [this]; rfl⟩⟩
      · cases hh
    · cases hh
  split at hh
  · rename_i hf
    subst hf
    split at hh
    · rename_i v
      split at hh
      · rename_i s n d hvv
        split at hh
        · rename_i hz
          injection hh with hh; subst hh
          have hv' := hv
          simp only [VRL] at hv'
          obtain ⟨x, xs, e1, hx, rfl⟩ := hv'
          have hfo := frV_ok hx hvv
          refine pure_of_run prog_mixed hkP_ok hkP_dom hr hgl (Opens.refl hr) hv ?_
          obtain ⟨m, r', h1, q1, q2, b, rfl, q4, q5⟩ := neg_run frHkP (fun _ _ => rfl) hr.fr hvv (szB_iff.1 hz)
          exact ⟨m, _, h1, q1, q2, close_frac q5 rfl q4 ⟨hfo.1, hfo.2.1, fun h0 => by subst h0; simp⟩⟩
        · cases hh
      · cases hh
    · cases hh
  cases hh
structure FrHk2 (hk : Hooks) : Prop extends FrHk hk where
  new : ∀ {h : Hp} {s : Bool} {n d : Nat}, szOk n → szOk d → d ≠ 0 → hk 95 [.bool s, .opq (.nat n), .opq (.nat d)] h = some (.tup [.opq (mkF s n d), .bool true], h)
  new0 : ∀ {h : Hp} {s : Bool} {n : Nat}, szOk n → hk 95 [.bool s, .opq (.nat n), .opq (.nat 0)] h = some (.tup [.nilp, .bool false], h)
  fOf : ∀ {h : Hp} {x : Int}, absOk x = true → hk 36 [.int .i64 x] h = some (.opq (.frac (decide (x < 0)) x.natAbs 1), h)
  neg : ∀ {h : Hp} {v : AV} {s : Bool} {n d : Nat}, frV v = some (s, n, d) → szOk n → hk 64 [v] h = some (.opq (.frac (!s && !(Nat.beq n 0)) n d), h)
theorem FrHk2.sub {a b : Hooks} (S : Sub a b) (G : GrowOK b) (B : FrHk2 a) : FrHk2 b :=
  { B.toFrHk.sub S G with
    new := fun ha hb hd => S _ _ _ _ (B.new ha hb hd)
    new0 := fun ha => S _ _ _ _ (B.new0 ha)
    fOf := fun ha => S _ _ _ _ (B.fOf ha)
    neg := fun hv hs => S _ _ _ _ (B.neg hv hs) }
abbrev hkW : Hooks := orHk hkP (pureHk gW)
theorem hkW_ok : CallOK Tryz.prog hkW := orHk_ok hkP_ok (pureHk_ok gW_ok)
theorem hkW_dom : DomOK hkW := orHk_dom hkP_dom pureHk_dom
theorem hkW_grow : GrowOK hkW := orHk_grow hkP_grow pureHk_grow
theorem gW_hkW {f : FuncId} {args : List AV} {h : Hp} {r : AV} (h0 : hkP f args h = none) (h1 : gW f args h = some r) : hkW f args h = some (r, h) :=
  (orHk_right h0).trans (pureHk_some h1)
theorem frHkW : FrHk2 hkW := { frHkP.sub Sub.left hkW_grow with
  new := fun ha hb hd => gW_hkW rfl (by unfold gW; rw [if_pos rfl]; simp only; rw [if_pos (by rw [szB_iff.2 ha, szB_iff.2 hb]; rfl), if_neg hd])
  new0 := fun ha => gW_hkW rfl (by unfold gW; rw [if_pos rfl]; simp only; rw [if_pos (by rw [szB_iff.2 ha]; rfl), if_pos trivial])
  fOf := fun hx => gW_hkW rfl (by unfold gW; rw [if_neg (by decide), if_pos rfl]; simp only; rw [if_pos hx])
  neg := fun hv hs => gW_hkW rfl (by unfold gW; rw [if_neg (by decide), if_neg (by decide), if_pos rfl]; simp only; rw [hv]; simp only; rw [if_pos (szB_iff.2 hs)]) }
end Go.Vk
set_option linter.unusedSimpArgs false
set_option linter.unusedVariables false
set_option maxRecDepth 100000
set_option maxHeartbeats 4000000
namespace Go.Vk
open Go.Proofs (Tryz.prog)
theorem fn_sure : fnE Tryz.prog 90 = some ⟨(Go.Proofs.Tryz.f90.body).getD .skip, 17, [.tmp 6]⟩ := by kernel_rfl
theorem sure_run {hk : Hooks} (B : FrHk2 hk) (hn : ∀ a h, hk 90 a h = none) {h : Hp} {s : Bool} {n d : Nat} (sn : szOk n) (sd : szOk d) (hd : d ≠ 0) :
    ExF Tryz.prog hk 90 [.bool s, .opq (.nat n), .opq (.nat d)] h fun r' h1 => r' = .opq (mkF s n d) ∧ h.sub h1 := by
  refine ExF.body fn_sure (hn _ _) (by simp) ?_
  simp only [Go.Proofs.Tryz.f90, Option.getD_some]
  have cn : ∀ m nx, callF Tryz.prog hk m 95 [.bool s, .opq (.nat n), .opq (.nat d)] ⟨h.m, nx⟩ = some (.tup [.opq (mkF s n d), .bool true], ⟨h.m, nx⟩) := fun m nx => callF_hk (B.new sn sd hd)
  (repeat refine Ex.assoc ?_); refine Ex.step (m := 0) (by simp (config := {decide := true}) only [RS, Nat.reduceAdd]; rfl) ?_
  refine Ex.forget fun E hE => ?_; have k0 := hE 0; simp (config := {decide := true}) only [RS, Nat.reduceAdd] at k0; have k1 := hE 1; simp (config := {decide := true}) only [RS, Nat.reduceAdd] at k1; have k2 := hE 2; simp (config := {decide := true}) only [RS, Nat.reduceAdd] at k2; clear hE; have g0 := k0; clear k0; have g1 := k1; clear k1; have g2 := k2; clear k2
  (repeat refine Ex.assoc ?_); refine Ex.step (m := 0) (by simp (config := {decide := true}) only [RS, Nat.reduceAdd, g0, g1, g2, fn_new, cn]; rfl) ?_
  refine Ex.forget fun E hE => ?_; have k7 := hE 7; simp (config := {decide := true}) only [RS, Nat.reduceAdd, g0, g1, g2] at k7; clear hE g0 g1 g2; have g7 := k7; clear k7
  (repeat refine Ex.assoc ?_); refine Ex.step (m := 0) (by simp (config := {decide := true}) only [RS, Nat.reduceAdd, g7]; rfl) ?_
  refine Ex.ret ⟨trivial, _, by simp (config := {decide := true}) only [RS, Nat.reduceAdd]; rfl, ?_, fun b x hb => hb⟩
  simp (config := {decide := true}) only [RS, Nat.reduceAdd]
/-- Numbers with signs, added. -/
def sgnS (p : Bool) (a : Nat) (q : Bool) (b : Nat) : Bool := if p = q then p else if a < b then q else p
def sgnN (p : Bool) (a : Nat) (q : Bool) (b : Nat) : Nat := if p = q then a + b else if a < b then b - a else a - b
theorem fn_signed : fnE Tryz.prog 93 = some ⟨(Go.Proofs.Tryz.f93.body).getD .skip, 38, [.tmp 8, .tmp 9]⟩ := by kernel_rfl
theorem signed_run {hk : Hooks} (B : NatHk hk) (hn : ∀ a h, hk 93 a h = none) {h : Hp} {p q : Bool} {a b : Nat} (sa : szOk a) (sb : szOk b) :
    ExF Tryz.prog hk 93 [.bool p, .opq (.nat a), .bool q, .opq (.nat b)] h fun r' h1 => r' = .tup [.bool (sgnS p a q b), .opq (.nat (sgnN p a q b))] ∧ h.sub h1 := by
  refine ExF.body fn_signed (hn _ _) (by simp) ?_
  simp only [Go.Proofs.Tryz.f93, Option.getD_some]
  (repeat refine Ex.assoc ?_); refine Ex.step (m := 0) (by simp (config := {decide := true}) only [RS, Nat.reduceAdd]; rfl) ?_
  refine Ex.forget fun E hE => ?_; have k0 := hE 0; simp (config := {decide := true}) only [RS, Nat.reduceAdd] at k0; have k1 := hE 1; simp (config := {decide := true}) only [RS, Nat.reduceAdd] at k1; have k2 := hE 2; simp (config := {decide := true}) only [RS, Nat.reduceAdd] at k2; have k3 := hE 3; simp (config := {decide := true}) only [RS, Nat.reduceAdd] at k3; clear hE; have g0 := k0; clear k0; have g1 := k1; clear k1; have g2 := k2; clear k2; have g3 := k3; clear k3
  have ca : ∀ m nx, callF Tryz.prog hk m 131 [.opq (.nat a), .opq (.nat b)] ⟨h.m, nx⟩ = some (.opq (.nat (a + b)), ⟨h.m, nx⟩) := fun m nx => callF_hk (B.add sa sb)
  have cl : ∀ m nx, callF Tryz.prog hk m 134 [.opq (.nat a), .opq (.nat b)] ⟨h.m, nx⟩ = some (if a < b then .tup [.nilp, .bool false] else .tup [.opq (.nat (a - b)), .bool true], ⟨h.m, nx⟩) := fun m nx => callF_hk (B.less sa sb)
  have cm : ∀ m nx, callF Tryz.prog hk m 134 [.opq (.nat b), .opq (.nat a)] ⟨h.m, nx⟩ = some (if b < a then .tup [.nilp, .bool false] else .tup [.opq (.nat (b - a)), .bool true], ⟨h.m, nx⟩) := fun m nx => callF_hk (B.less sb sa)
  (repeat refine Ex.assoc ?_); refine Ex.step (m := 0) (by simp (config := {decide := true}) only [RS, Nat.reduceAdd, g0, g2, aEq]; rfl) ?_
  refine Ex.forget fun E hE => ?_; have k0 := hE 0; simp (config := {decide := true}) only [RS, Nat.reduceAdd, g0, g1, g2, g3] at k0; have k1 := hE 1; simp (config := {decide := true}) only [RS, Nat.reduceAdd, g0, g1, g2, g3] at k1; have k2 := hE 2; simp (config := {decide := true}) only [RS, Nat.reduceAdd, g0, g1, g2, g3] at k2; have k3 := hE 3; simp (config := {decide := true}) only [RS, Nat.reduceAdd, g0, g1, g2, g3] at k3; have k16 := hE 16; simp (config := {decide := true}) only [RS, Nat.reduceAdd, g0, g1, g2, g3] at k16; clear hE g0 g1 g2 g3; have g0 := k0; clear k0; have g1 := k1; clear k1; have g2 := k2; clear k2; have g3 := k3; clear k3; have g16 := k16; clear k16
  by_cases hpq : p = q
  · subst hpq
    have e1 : (p == p) = true := by cases p <;> rfl
    refine Ex.ifT (by simp (config := {decide := true}) only [RS, Nat.reduceAdd, g16, e1] <;> rfl) ?_
    (repeat refine Ex.assoc ?_); refine Ex.step (m := 0) (by simp (config := {decide := true}) only [RS, Nat.reduceAdd, g0, g1, g3, fn_add, ca]; rfl) ?_
    refine Ex.retS ⟨trivial, _, by simp (config := {decide := true}) only [RS, Nat.reduceAdd]; rfl, ?_, fun b x hb => hb⟩
    simp (config := {decide := true}) only [RS, Nat.reduceAdd, sgnS, sgnN]
  · have e1 : (p == q) = false := by cases p <;> cases q <;> first | rfl | exact absurd rfl hpq
    refine Ex.ifF (by simp (config := {decide := true}) only [RS, Nat.reduceAdd, g16, e1] <;> rfl) (Ex.skipS ?_)
    by_cases hab : a < b
    · have hba : ¬ b < a := by omega
      rw [if_pos hab] at cl
      rw [if_neg hba] at cm
      (repeat refine Ex.assoc ?_); refine Ex.step (m := 0) (by simp (config := {decide := true}) only [RS, Nat.reduceAdd, g1, g3, fn_less, cl]; rfl) ?_
      refine Ex.forget fun E hE => ?_; have k1 := hE 1; simp (config := {decide := true}) only [RS, Nat.reduceAdd, g0, g1, g2, g3, g16] at k1; have k2 := hE 2; simp (config := {decide := true}) only [RS, Nat.reduceAdd, g0, g1, g2, g3, g16] at k2; have k3 := hE 3; simp (config := {decide := true}) only [RS, Nat.reduceAdd, g0, g1, g2, g3, g16] at k3; have k11 := hE 11; simp (config := {decide := true}) only [RS, Nat.reduceAdd, g0, g1, g2, g3, g16] at k11; clear hE g0 g1 g2 g3 g16; have g1 := k1; clear k1; have g2 := k2; clear k2; have g3 := k3; clear k3; have g11 := k11; clear k11
      (repeat refine Ex.assoc ?_); refine Ex.step (m := 0) (by simp (config := {decide := true}) only [RS, Nat.reduceAdd, g11]; rfl) ?_
      refine Ex.forget fun E hE => ?_; have k1 := hE 1; simp (config := {decide := true}) only [RS, Nat.reduceAdd, g1, g2, g3, g11] at k1; have k2 := hE 2; simp (config := {decide := true}) only [RS, Nat.reduceAdd, g1, g2, g3, g11] at k2; have k3 := hE 3; simp (config := {decide := true}) only [RS, Nat.reduceAdd, g1, g2, g3, g11] at k3; have k27 := hE 27; simp (config := {decide := true}) only [RS, Nat.reduceAdd, g1, g2, g3, g11] at k27; clear hE g1 g2 g3 g11; have g1 := k1; clear k1; have g2 := k2; clear k2; have g3 := k3; clear k3; have g27 := k27; clear k27
      refine Ex.ifF (by simp (config := {decide := true}) only [RS, Nat.reduceAdd, g27] <;> rfl) (Ex.skipS ?_)
      (repeat refine Ex.assoc ?_); refine Ex.step (m := 0) (by simp (config := {decide := true}) only [RS, Nat.reduceAdd, g1, g3, fn_less, cm]; rfl) ?_
      refine Ex.forget fun E hE => ?_; have k2 := hE 2; simp (config := {decide := true}) only [RS, Nat.reduceAdd, g1, g2, g3, g27] at k2; have k12 := hE 12; simp (config := {decide := true}) only [RS, Nat.reduceAdd, g1, g2, g3, g27] at k12; clear hE g1 g2 g3 g27; have g2 := k2; clear k2; have g12 := k12; clear k12
      (repeat refine Ex.assoc ?_); refine Ex.step (m := 0) (by simp (config := {decide := true}) only [RS, Nat.reduceAdd, g2, g12]; rfl) ?_
      refine Ex.ret ⟨trivial, _, by simp (config := {decide := true}) only [RS, Nat.reduceAdd]; rfl, ?_, fun b x hb => hb⟩
      simp (config := {decide := true}) only [RS, Nat.reduceAdd, sgnS, sgnN, hpq, hab]
    · rw [if_neg hab] at cl
      (repeat refine Ex.assoc ?_); refine Ex.step (m := 0) (by simp (config := {decide := true}) only [RS, Nat.reduceAdd, g1, g3, fn_less, cl]; rfl) ?_
      refine Ex.forget fun E hE => ?_; have k0 := hE 0; simp (config := {decide := true}) only [RS, Nat.reduceAdd, g0, g1, g2, g3, g16] at k0; have k10 := hE 10; simp (config := {decide := true}) only [RS, Nat.reduceAdd, g0, g1, g2, g3, g16] at k10; have k11 := hE 11; simp (config := {decide := true}) only [RS, Nat.reduceAdd, g0, g1, g2, g3, g16] at k11; clear hE g0 g1 g2 g3 g16; have g0 := k0; clear k0; have g10 := k10; clear k10; have g11 := k11; clear k11
      (repeat refine Ex.assoc ?_); refine Ex.step (m := 0) (by simp (config := {decide := true}) only [RS, Nat.reduceAdd, g11]; rfl) ?_
      refine Ex.forget fun E hE => ?_; have k0 := hE 0; simp (config := {decide := true}) only [RS, Nat.reduceAdd, g0, g10, g11] at k0; have k10 := hE 10; simp (config := {decide := true}) only [RS, Nat.reduceAdd, g0, g10, g11] at k10; have k27 := hE 27; simp (config := {decide := true}) only [RS, Nat.reduceAdd, g0, g10, g11] at k27; clear hE g0 g10 g11; have g0 := k0; clear k0; have g10 := k10; clear k10; have g27 := k27; clear k27
      refine Ex.ifT (by simp (config := {decide := true}) only [RS, Nat.reduceAdd, g27] <;> rfl) ?_
      (repeat refine Ex.assoc ?_); refine Ex.step (m := 0) (by simp (config := {decide := true}) only [RS, Nat.reduceAdd, g0, g10]; rfl) ?_
      refine Ex.retS ⟨trivial, _, by simp (config := {decide := true}) only [RS, Nat.reduceAdd]; rfl, ?_, fun b x hb => hb⟩
      simp (config := {decide := true}) only [RS, Nat.reduceAdd, sgnS, sgnN, hpq, hab]
theorem fn_sign : fnE Tryz.prog 42 = some ⟨(Go.Proofs.Tryz.f42.body).getD .skip, 17, [.tmp 2]⟩ := by kernel_rfl
def sgI (s : Bool) (n : Nat) : Int := if s = true then -1 else if n = 0 then 0 else 1
theorem sign_run {hk : Hooks} (B : FrHk hk) (hn : ∀ a h, hk 42 a h = none) {h : Hp} {v : AV} {s : Bool} {n d : Nat} (hv : frV v = some (s, n, d)) (sn : szOk n) :
    ExF Tryz.prog hk 42 [v] h fun r' h1 => r' = .int .i64 (sgI s n) ∧ h.sub h1 := by
  refine ExF.body fn_sign (hn _ _) (by simp) ?_
  simp only [Go.Proofs.Tryz.f42, Option.getD_some]
  have cp : ∀ m nx, callF Tryz.prog hk m 80 [v] ⟨h.m, nx⟩ = some (.tup [.bool s, .opq (.nat n), .opq (.nat d)], ⟨h.m, nx⟩) := fun m nx => callF_hk (B.partsV hv)
  have cz : ∀ m nx, callF Tryz.prog hk m 89 [.opq (.nat n)] ⟨h.m, nx⟩ = some (.bool (Nat.beq n 0), ⟨h.m, nx⟩) := fun m nx => callF_hk (B.zero sn)
  (repeat refine Ex.assoc ?_); refine Ex.step (m := 0) (by simp (config := {decide := true}) only [RS, Nat.reduceAdd]; rfl) ?_
  refine Ex.forget fun E hE => ?_; have k0 := hE 0; simp (config := {decide := true}) only [RS, Nat.reduceAdd] at k0; clear hE; have g0 := k0; clear k0
  (repeat refine Ex.assoc ?_); refine Ex.step (m := 0) (by simp (config := {decide := true}) only [RS, Nat.reduceAdd, g0, fn_parts, cp]; rfl) ?_
  refine Ex.forget fun E hE => ?_; have k3 := hE 3; simp (config := {decide := true}) only [RS, Nat.reduceAdd, g0] at k3; have k4 := hE 4; simp (config := {decide := true}) only [RS, Nat.reduceAdd, g0] at k4; clear hE g0; have g3 := k3; clear k3; have g4 := k4; clear k4
  (repeat refine Ex.assoc ?_)
  cases s with
  | true =>
    refine Ex.seq (Ex.block ?_)
    (repeat refine Ex.assoc ?_); refine Ex.step (m := 0) (by simp (config := {decide := true}) only [RS, Nat.reduceAdd, g3]; rfl) ?_
    refine Ex.forget fun E hE => ?_; have k12 := hE 12; simp (config := {decide := true}) only [RS, Nat.reduceAdd, g3, g4] at k12; clear hE g3 g4; have g12 := k12; clear k12
    refine Ex.cond_true (by simp (config := {decide := true}) only [RS, Nat.reduceAdd, g12] <;> rfl) ?_
    (repeat refine Ex.assoc ?_); refine Ex.step (m := 0) (by simp (config := {decide := true}) only [RS, Nat.reduceAdd]; rfl) ?_
    refine Ex.ret ?_
    simp (config := {decide := true}) only [thenK, blockK, ite_true, ite_false, if_true, if_false]
    refine ⟨trivial, _, by simp (config := {decide := true}) only [RS, Nat.reduceAdd]; rfl, ?_, fun b x hb => hb⟩
    simp (config := {decide := true}) only [RS, Nat.reduceAdd, sgI]
  | false =>
    by_cases h0 : n = 0
    · have hb : Nat.beq n 0 = true := by rw [Nat.beq_eq]; exact h0
      rw [hb] at cz
      refine Ex.seq (Ex.block ?_)
      (repeat refine Ex.assoc ?_); refine Ex.step (m := 0) (by simp (config := {decide := true}) only [RS, Nat.reduceAdd, g3]; rfl) ?_
      refine Ex.forget fun E hE => ?_; have k4 := hE 4; simp (config := {decide := true}) only [RS, Nat.reduceAdd, g3, g4] at k4; have k12 := hE 12; simp (config := {decide := true}) only [RS, Nat.reduceAdd, g3, g4] at k12; clear hE g3 g4; have g4 := k4; clear k4; have g12 := k12; clear k12
      refine Ex.cond_false (by simp (config := {decide := true}) only [RS, Nat.reduceAdd, g12] <;> rfl) ?_
      (repeat refine Ex.assoc ?_); refine Ex.step (m := 0) (by simp (config := {decide := true}) only [RS, Nat.reduceAdd, g4, fn_zero, cz]; rfl) ?_
      refine Ex.forget fun E hE => ?_; have k14 := hE 14; simp (config := {decide := true}) only [RS, Nat.reduceAdd, g4, g12] at k14; clear hE g4 g12; have g14 := k14; clear k14
      refine Ex.cond_true (by simp (config := {decide := true}) only [RS, Nat.reduceAdd, g14] <;> rfl) ?_
      (repeat refine Ex.assoc ?_); refine Ex.step (m := 0) (by simp (config := {decide := true}) only [RS, Nat.reduceAdd]; rfl) ?_
      refine Ex.ret ?_
      simp (config := {decide := true}) only [thenK, blockK, ite_true, ite_false, if_true, if_false]
      refine ⟨trivial, _, by simp (config := {decide := true}) only [RS, Nat.reduceAdd]; rfl, ?_, fun b x hb => hb⟩
      simp (config := {decide := true}) only [RS, Nat.reduceAdd, sgI, h0]
    · have hb : Nat.beq n 0 = false := by rw [← Bool.not_eq_true, Nat.beq_eq]; exact h0
      rw [hb] at cz
      refine Ex.cut (fun env h' => h'.m = h.m) (Ex.block ?_) ?_
      · (repeat refine Ex.assoc ?_); refine Ex.step (m := 0) (by simp (config := {decide := true}) only [RS, Nat.reduceAdd, g3]; rfl) ?_
        refine Ex.forget fun E hE => ?_; have k4 := hE 4; simp (config := {decide := true}) only [RS, Nat.reduceAdd, g3, g4] at k4; have k12 := hE 12; simp (config := {decide := true}) only [RS, Nat.reduceAdd, g3, g4] at k12; clear hE g3 g4; have g4 := k4; clear k4; have g12 := k12; clear k12
        refine Ex.cond_false (by simp (config := {decide := true}) only [RS, Nat.reduceAdd, g12] <;> rfl) ?_
        (repeat refine Ex.assoc ?_); refine Ex.step (m := 0) (by simp (config := {decide := true}) only [RS, Nat.reduceAdd, g4, fn_zero, cz]; rfl) ?_
        refine Ex.forget fun E hE => ?_; have k14 := hE 14; simp (config := {decide := true}) only [RS, Nat.reduceAdd, g4, g12] at k14; clear hE g4 g12; have g14 := k14; clear k14
        refine Ex.cond_false (by simp (config := {decide := true}) only [RS, Nat.reduceAdd, g14] <;> rfl) (Ex.skip ?_)
        simp (config := {decide := true}) only [thenK, blockK, ite_true, ite_false, if_true, if_false]
      clear g3 g4
      rintro env ⟨M, N⟩ e1
      dsimp only at e1
      subst e1
      (repeat refine Ex.assoc ?_); refine Ex.step (m := 0) (by simp (config := {decide := true}) only [RS, Nat.reduceAdd]; rfl) ?_
      refine Ex.ret ⟨trivial, _, by simp (config := {decide := true}) only [RS, Nat.reduceAdd]; rfl, ?_, fun b x hb => hb⟩
      simp (config := {decide := true}) only [RS, Nat.reduceAdd, sgI, h0]
theorem fn_whole : fnE Tryz.prog 96 = some ⟨(Go.Proofs.Tryz.f96.body).getD .skip, 16, [.tmp 2]⟩ := by kernel_rfl
theorem whole_run {hk : Hooks} (B : FrHk hk) (hn : ∀ a h, hk 96 a h = none) {h : Hp} {v : AV} {s : Bool} {n d : Nat} (hv : frV v = some (s, n, d)) (sd : szOk d) :
    ExF Tryz.prog hk 96 [v] h fun r' h1 => r' = .bool (Nat.beq d 1) ∧ h.sub h1 := by
  refine ExF.body fn_whole (hn _ _) (by simp) ?_
  simp only [Go.Proofs.Tryz.f96, Option.getD_some]
  have cp : ∀ m nx, callF Tryz.prog hk m 80 [v] ⟨h.m, nx⟩ = some (.tup [.bool s, .opq (.nat n), .opq (.nat d)], ⟨h.m, nx⟩) := fun m nx => callF_hk (B.partsV hv)
  have c1 : ∀ m nx, callF Tryz.prog hk m 75 [.int .u64 1] ⟨h.m, nx⟩ = some (.opq (.nat 1), ⟨h.m, nx⟩) := fun m nx => callF_hk (B.Of (a := 1) (by omega))
  have cc : ∀ m nx, callF Tryz.prog hk m 92 [.opq (.nat d), .opq (.nat 1)] ⟨h.m, nx⟩ = some (.int .i64 (cmpN d 1), ⟨h.m, nx⟩) := fun m nx => callF_hk (B.cmp sd (by unfold szOk; decide))
  (repeat refine Ex.assoc ?_); refine Ex.step (m := 0) (by simp (config := {decide := true}) only [RS, Nat.reduceAdd]; rfl) ?_
  refine Ex.forget fun E hE => ?_; have k0 := hE 0; simp (config := {decide := true}) only [RS, Nat.reduceAdd] at k0; clear hE; have g0 := k0; clear k0
  (repeat refine Ex.assoc ?_); refine Ex.step (m := 0) (by simp (config := {decide := true}) only [RS, Nat.reduceAdd, g0, fn_parts, cp]; rfl) ?_
  refine Ex.forget fun E hE => ?_; have k5 := hE 5; simp (config := {decide := true}) only [RS, Nat.reduceAdd, g0] at k5; clear hE g0; have g5 := k5; clear k5
  (repeat refine Ex.assoc ?_); refine Ex.step (m := 0) (by simp (config := {decide := true}) only [RS, Nat.reduceAdd, g5, fn_Of, c1, fn_cmp, cc, cmpN_one]; rfl) ?_
  refine Ex.ret ⟨trivial, _, by simp (config := {decide := true}) only [RS, Nat.reduceAdd]; rfl, ?_, fun b x hb => hb⟩
  simp (config := {decide := true}) only [RS, Nat.reduceAdd]
end Go.Vk
set_option linter.unusedSimpArgs false
set_option linter.unusedVariables false
set_option maxRecDepth 100000
set_option maxHeartbeats 4000000
namespace Go.Vk
open Go.Proofs (Tryz.prog)
def gV : FuncId → List AV → Hp → Option AV := fun f args h =>
  if f = 90 then match args with
    | [.bool s, .opq (.nat n), .opq (.nat d)] => if (szB n && szB d && !(Nat.beq d 0)) = true then some (.opq (mkF s n d)) else none
    | _ => none
  else if f = 93 then match args with
    | [.bool p, .opq (.nat a), .bool q, .opq (.nat b)] => if (szB a && szB b) = true then some (.tup [.bool (sgnS p a q b), .opq (.nat (sgnN p a q b))]) else none
    | _ => none
  else if f = 42 then match args with
    | [v] => match frV v with
      | some (s, n, d) => if szB n = true then some (.int .i64 (sgI s n)) else none
      | none => none
    | _ => none
  else if f = 96 then match args with
    | [v] => match frV v with
      | some (s, n, d) => if szB d = true then some (.bool (Nat.beq d 1)) else none
      | none => none
    | _ => none
  else none
theorem gV_ok : ∀ f args h r, gV f args h = some r → PureOK Tryz.prog f args h r := by
  intro f args h r hh
  unfold gV at hh
  split at hh
  · rename_i hf
    subst hf
    split at hh
    · rename_i s n d
      split at hh
      · rename_i hz
        rw [Bool.and_eq_true, Bool.and_eq_true, szB_iff, szB_iff, Bool.not_eq_true'] at hz
        injection hh with hh; subst hh
        exact pure_free hkW_ok hkW_dom rfl fun hf => sure_run frHkW (fun _ _ => rfl) hz.1.1 hz.1.2 (fun e => by rw [e] at hz; exact absurd hz.2 (by decide))
      · cases hh
    · cases hh
  split at hh
  · rename_i hf
    subst hf
    split at hh
    · rename_i p a q b
      split at hh
      · rename_i hz
        rw [Bool.and_eq_true, szB_iff, szB_iff] at hz
        injection hh with hh; subst hh
        exact pure_free hkW_ok hkW_dom rfl fun hf => signed_run frHkW.toNatHk (fun _ _ => rfl) hz.1 hz.2
      · cases hh
    · cases hh
  split at hh
  · rename_i hf
    subst hf
    split at hh
    · rename_i v
      split at hh
      · rename_i s n d hv
        split at hh
        · rename_i hz
          injection hh with hh; subst hh
          exact pure_free hkW_ok hkW_dom rfl fun hf => sign_run frHkW.toFrHk (fun _ _ => rfl) hv (szB_iff.1 hz)
        · cases hh
      · cases hh
    · cases hh
  split at hh
  · rename_i hf
    subst hf
    split at hh
    · rename_i v
      split at hh
      · rename_i s n d hv
        split at hh
        · rename_i hz
          injection hh with hh; subst hh
          exact pure_free hkW_ok hkW_dom rfl fun hf => whole_run frHkW.toFrHk (fun _ _ => rfl) hv (szB_iff.1 hz)
        · cases hh
      · cases hh
    · cases hh
  cases hh
structure FrHk3 (hk : Hooks) : Prop extends FrHk2 hk where
  sure : ∀ {h : Hp} {s : Bool} {n d : Nat}, szOk n → szOk d → d ≠ 0 → hk 90 [.bool s, .opq (.nat n), .opq (.nat d)] h = some (.opq (mkF s n d), h)
  signed : ∀ {h : Hp} {p q : Bool} {a b : Nat}, szOk a → szOk b → hk 93 [.bool p, .opq (.nat a), .bool q, .opq (.nat b)] h = some (.tup [.bool (sgnS p a q b), .opq (.nat (sgnN p a q b))], h)
  sign : ∀ {h : Hp} {v : AV} {s : Bool} {n d : Nat}, frV v = some (s, n, d) → szOk n → hk 42 [v] h = some (.int .i64 (sgI s n), h)
  whole : ∀ {h : Hp} {v : AV} {s : Bool} {n d : Nat}, frV v = some (s, n, d) → szOk d → hk 96 [v] h = some (.bool (Nat.beq d 1), h)
theorem FrHk3.sub {a b : Hooks} (S : Sub a b) (G : GrowOK b) (B : FrHk3 a) : FrHk3 b :=
  { B.toFrHk2.sub S G with
    sure := fun ha hb hd => S _ _ _ _ (B.sure ha hb hd)
    signed := fun ha hb => S _ _ _ _ (B.signed ha hb)
    sign := fun hv ha => S _ _ _ _ (B.sign hv ha)
    whole := fun hv ha => S _ _ _ _ (B.whole hv ha) }
abbrev hkV : Hooks := orHk hkW (pureHk gV)
theorem hkV_ok : CallOK Tryz.prog hkV := orHk_ok hkW_ok (pureHk_ok gV_ok)
theorem hkV_dom : DomOK hkV := orHk_dom hkW_dom pureHk_dom
theorem hkV_grow : GrowOK hkV := orHk_grow hkW_grow pureHk_grow
theorem gV_hkV {f : FuncId} {args : List AV} {h : Hp} {r : AV} (h0 : hkW f args h = none) (h1 : gV f args h = some r) : hkV f args h = some (r, h) :=
  (orHk_right h0).trans (pureHk_some h1)
theorem frHkV : FrHk3 hkV := { frHkW.sub Sub.left hkV_grow with
  sure := fun ha hb hd => gV_hkV rfl (by
    unfold gV; rw [if_pos rfl]; simp only
    rw [if_pos (by rw [szB_iff.2 ha, szB_iff.2 hb, show Nat.beq _ 0 = false by rw [← Bool.not_eq_true, Nat.beq_eq]; exact hd]; rfl)])
  signed := fun ha hb => gV_hkV rfl (by
    unfold gV; rw [if_neg (by decide), if_pos rfl]; simp only
    rw [if_pos (by rw [szB_iff.2 ha, szB_iff.2 hb]; rfl)])
  sign := fun hv ha => gV_hkV rfl (by
    unfold gV; rw [if_neg (by decide), if_neg (by decide), if_pos rfl]; simp only
    rw [hv]; simp only
    rw [if_pos (szB_iff.2 ha)])
  whole := fun hv ha => gV_hkV rfl (by
    unfold gV; rw [if_neg (by decide), if_neg (by decide), if_neg (by decide), if_pos rfl]; simp only
    rw [hv]; simp only
    rw [if_pos (szB_iff.2 ha)]) }
end Go.Vk
set_option linter.unusedSimpArgs false
set_option linter.unusedVariables false
set_option maxRecDepth 100000
set_option maxHeartbeats 4000000
namespace Go.Vk
open Go.Proofs (Tryz.prog)
def szF (n : Nat) : Prop := Nat.log2 n < 10000000000
theorem szF.ok {n : Nat} (h : szF n) : szOk n := by unfold szF szOk at *; omega
theorem szOk_lt1 {n m : Nat} (h : n < m) (hm : szOk m) : szOk n := by
  unfold szOk at *
  by_cases h0 : n = 0
  · rw [h0]; decide
  · have := (Nat.log2_lt h0).2 (Nat.lt_trans h (Nat.lt_log2_self (n := m)))
    omega
theorem mul_lt_pow {n m : Nat} : n * m < 2 ^ (Nat.log2 n + 1 + (Nat.log2 m + 1)) := by
  rw [Nat.pow_add]
  exact Nat.mul_lt_mul'' (Nat.lt_log2_self) (Nat.lt_log2_self)
theorem szF_mul {n m : Nat} (h : szF n) (k : szF m) : Nat.log2 (n * m) < 20000000002 := by
  unfold szF at *
  by_cases h0 : n * m = 0
  · rw [h0]; decide
  · have := (Nat.log2_lt h0).2 (mul_lt_pow (n := n) (m := m))
    omega
theorem szOk_mul {n m : Nat} (h : szF n) (k : szF m) : szOk (n * m) := by
  have := szF_mul h k
  unfold szOk; omega
theorem szOk_add {a b : Nat} (h : Nat.log2 a < 20000000002) (k : Nat.log2 b < 20000000002) : szOk (a + b) := by
  have h1 := Nat.lt_log2_self (n := a)
  have h2 := Nat.lt_log2_self (n := b)
  obtain ⟨M, hM⟩ : ∃ M, M = max (Nat.log2 a + 1) (Nat.log2 b + 1) := ⟨_, rfl⟩
  have h3 : 2 ^ (Nat.log2 a + 1) ≤ 2 ^ M := Nat.pow_le_pow_right (by omega) (by omega)
  have h4 : 2 ^ (Nat.log2 b + 1) ≤ 2 ^ M := Nat.pow_le_pow_right (by omega) (by omega)
  refine szOk_lt (k := M + 1) ?_ (by omega)
  rw [Nat.pow_succ]
  omega
theorem sgnN_sz {p q : Bool} {a b : Nat} (h : Nat.log2 a < 20000000002) (k : Nat.log2 b < 20000000002) : szOk (sgnN p a q b) := by
  unfold sgnN
  have ha : szOk a := by unfold szOk; omega
  have hb : szOk b := by unfold szOk; omega
  split
  · exact szOk_add h k
  · split
    · by_cases h0 : a = 0
      · subst h0; exact hb
      · exact szOk_lt1 (by omega) hb
    · by_cases h0 : b = 0
      · subst h0; exact ha
      · by_cases h1 : a = b
        · subst h1; rw [Nat.sub_self]; unfold szOk; decide
        · exact szOk_lt1 (by omega) ha
theorem mkF_mul {s : Bool} {n d k : Nat} (hk : 0 < k) : mkF s (n * k) (d * k) = mkF s n d := by
  unfold mkF mkS
  rw [Nat.gcd_mul_right, Nat.mul_div_mul_right _ _ hk, Nat.mul_div_mul_right _ _ hk]
theorem sgnS_mul {p q : Bool} {a b k : Nat} (hk : 0 < k) : sgnS p (a * k) q (b * k) = sgnS p a q b := by
  unfold sgnS
  have : a * k < b * k ↔ a < b := Nat.mul_lt_mul_right hk
  simp only [this]
theorem sgnN_mul {p q : Bool} {a b k : Nat} (hk : 0 < k) : sgnN p (a * k) q (b * k) = sgnN p a q b * k := by
  unfold sgnN
  have : a * k < b * k ↔ a < b := Nat.mul_lt_mul_right hk
  simp only [this]
  split
  · rw [Nat.add_mul]
  · split <;> rw [Nat.sub_mul]
def addF (s : Bool) (n d : Nat) (t : Bool) (m e : Nat) : Opq := if n = 0 then mkF t m e else mkF (sgnS s (n * e) t (m * d)) (sgnN s (n * e) t (m * d)) (d * e)
theorem cmpN_eq {a b : Nat} : (cmpN a b == 0) = Nat.beq a b := by
  unfold cmpN
  by_cases h : a = b
  · subst h; rw [if_neg (Nat.lt_irrefl _), if_neg (Nat.lt_irrefl _), show Nat.beq a a = true by rw [Nat.beq_eq]]; rfl
  · have h2 : Nat.beq a b = false := by rw [← Bool.not_eq_true, Nat.beq_eq]; exact h
    rw [h2]
    split
    · rfl
    · split
      · rfl
      · omega
theorem fn_fadd : fnE Tryz.prog 44 = some ⟨(Go.Proofs.Tryz.f44.body).getD .skip, 67, [.tmp 4]⟩ := by kernel_rfl
theorem fadd_run {hk : Hooks} (B : FrHk3 hk) (hn : ∀ a h, hk 44 a h = none) {h : Hp} {v w : AV} {s t : Bool} {n d m e : Nat} (hv : frV v = some (s, n, d)) (hw : frV w = some (t, m, e))
    (sn : szF n) (sd : szF d) (sm : szF m) (se : szF e) (hd : 0 < d) (he : 0 < e) :
    ExF Tryz.prog hk 44 [v, w] h fun r' h1 => r' = .opq (addF s n d t m e) ∧ h.sub h1 := by
  refine ExF.body fn_fadd (hn _ _) (by simp) ?_
  simp only [Go.Proofs.Tryz.f44, Option.getD_some]
  have cp : ∀ m nx, callF Tryz.prog hk m 80 [v] ⟨h.m, nx⟩ = some (.tup [.bool s, .opq (.nat n), .opq (.nat d)], ⟨h.m, nx⟩) := fun m nx => callF_hk (B.partsV hv)
  have cq : ∀ k nx, callF Tryz.prog hk k 80 [w] ⟨h.m, nx⟩ = some (.tup [.bool t, .opq (.nat m), .opq (.nat e)], ⟨h.m, nx⟩) := fun k nx => callF_hk (B.partsV hw)
  have cz : ∀ m nx, callF Tryz.prog hk m 89 [.opq (.nat n)] ⟨h.m, nx⟩ = some (.bool (Nat.beq n 0), ⟨h.m, nx⟩) := fun m nx => callF_hk (B.zero sn.ok)
  have c1 : ∀ k nx, callF Tryz.prog hk k 90 [.bool t, .opq (.nat m), .opq (.nat e)] ⟨h.m, nx⟩ = some (.opq (mkF t m e), ⟨h.m, nx⟩) := fun k nx => callF_hk (B.sure sm.ok se.ok (by omega))
  have cc : ∀ k nx, callF Tryz.prog hk k 92 [.opq (.nat d), .opq (.nat e)] ⟨h.m, nx⟩ = some (.int .i64 (cmpN d e), ⟨h.m, nx⟩) := fun k nx => callF_hk (B.cmp sd.ok se.ok)
  (repeat refine Ex.assoc ?_); refine Ex.step (m := 0) (by simp (config := {decide := true}) only [RS, Nat.reduceAdd]; rfl) ?_
  refine Ex.forget fun E hE => ?_; have k0 := hE 0; simp (config := {decide := true}) only [RS, Nat.reduceAdd] at k0; have k1 := hE 1; simp (config := {decide := true}) only [RS, Nat.reduceAdd] at k1; clear hE; have g0 := k0; clear k0; have g1 := k1; clear k1
  (repeat refine Ex.assoc ?_); refine Ex.step (m := 0) (by simp (config := {decide := true}) only [RS, Nat.reduceAdd, g0, fn_parts, cp]; rfl) ?_
  refine Ex.forget fun E hE => ?_; have k1 := hE 1; simp (config := {decide := true}) only [RS, Nat.reduceAdd, g0, g1] at k1; have k5 := hE 5; simp (config := {decide := true}) only [RS, Nat.reduceAdd, g0, g1] at k5; have k6 := hE 6; simp (config := {decide := true}) only [RS, Nat.reduceAdd, g0, g1] at k6; have k7 := hE 7; simp (config := {decide := true}) only [RS, Nat.reduceAdd, g0, g1] at k7; clear hE g0 g1; have g1 := k1; clear k1; have g5 := k5; clear k5; have g6 := k6; clear k6; have g7 := k7; clear k7
  (repeat refine Ex.assoc ?_); refine Ex.step (m := 0) (by simp (config := {decide := true}) only [RS, Nat.reduceAdd, g1, fn_parts, cq]; rfl) ?_
  refine Ex.forget fun E hE => ?_; have k5 := hE 5; simp (config := {decide := true}) only [RS, Nat.reduceAdd, g1, g5, g6, g7] at k5; have k6 := hE 6; simp (config := {decide := true}) only [RS, Nat.reduceAdd, g1, g5, g6, g7] at k6; have k7 := hE 7; simp (config := {decide := true}) only [RS, Nat.reduceAdd, g1, g5, g6, g7] at k7; have k8 := hE 8; simp (config := {decide := true}) only [RS, Nat.reduceAdd, g1, g5, g6, g7] at k8; have k9 := hE 9; simp (config := {decide := true}) only [RS, Nat.reduceAdd, g1, g5, g6, g7] at k9; have k10 := hE 10; simp (config := {decide := true}) only [RS, Nat.reduceAdd, g1, g5, g6, g7] at k10; clear hE g1 g5 g6 g7; have g5 := k5; clear k5; have g6 := k6; clear k6; have g7 := k7; clear k7; have g8 := k8; clear k8; have g9 := k9; clear k9; have g10 := k10; clear k10
  (repeat refine Ex.assoc ?_); refine Ex.step (m := 0) (by simp (config := {decide := true}) only [RS, Nat.reduceAdd, g6, fn_zero, cz]; rfl) ?_
  refine Ex.forget fun E hE => ?_; have k5 := hE 5; simp (config := {decide := true}) only [RS, Nat.reduceAdd, g5, g6, g7, g8, g9, g10] at k5; have k6 := hE 6; simp (config := {decide := true}) only [RS, Nat.reduceAdd, g5, g6, g7, g8, g9, g10] at k6; have k7 := hE 7; simp (config := {decide := true}) only [RS, Nat.reduceAdd, g5, g6, g7, g8, g9, g10] at k7; have k8 := hE 8; simp (config := {decide := true}) only [RS, Nat.reduceAdd, g5, g6, g7, g8, g9, g10] at k8; have k9 := hE 9; simp (config := {decide := true}) only [RS, Nat.reduceAdd, g5, g6, g7, g8, g9, g10] at k9; have k10 := hE 10; simp (config := {decide := true}) only [RS, Nat.reduceAdd, g5, g6, g7, g8, g9, g10] at k10; have k28 := hE 28; simp (config := {decide := true}) only [RS, Nat.reduceAdd, g5, g6, g7, g8, g9, g10] at k28; clear hE g5 g6 g7 g8 g9 g10; have g5 := k5; clear k5; have g6 := k6; clear k6; have g7 := k7; clear k7; have g8 := k8; clear k8; have g9 := k9; clear k9; have g10 := k10; clear k10; have g28 := k28; clear k28
  by_cases hn0 : n = 0
  · have hb : Nat.beq n 0 = true := by rw [Nat.beq_eq]; exact hn0
    rw [hb] at g28
    refine Ex.ifT (by simp (config := {decide := true}) only [RS, Nat.reduceAdd, g28] <;> rfl) ?_
    (repeat refine Ex.assoc ?_); refine Ex.step (m := 0) (by simp (config := {decide := true}) only [RS, Nat.reduceAdd, g8, g9, g10, fn_sure, c1]; rfl) ?_
    refine Ex.retS ⟨trivial, _, by simp (config := {decide := true}) only [RS, Nat.reduceAdd]; rfl, ?_, fun b x hb => hb⟩
    unfold addF
    rw [if_pos hn0]
    rfl
  have hb : Nat.beq n 0 = false := by rw [← Bool.not_eq_true, Nat.beq_eq]; exact hn0
  rw [hb] at g28
  refine Ex.ifF (by simp (config := {decide := true}) only [RS, Nat.reduceAdd, g28] <;> rfl) (Ex.skipS ?_)
  (repeat refine Ex.assoc ?_); refine Ex.step (m := 0) (by simp (config := {decide := true}) only [RS, Nat.reduceAdd, g7, g10, fn_cmp, cc, cmpN_eq]; rfl) ?_
  refine Ex.forget fun E hE => ?_; have k5 := hE 5; simp (config := {decide := true}) only [RS, Nat.reduceAdd, g5, g6, g7, g8, g9, g10, g28] at k5; have k6 := hE 6; simp (config := {decide := true}) only [RS, Nat.reduceAdd, g5, g6, g7, g8, g9, g10, g28] at k6; have k7 := hE 7; simp (config := {decide := true}) only [RS, Nat.reduceAdd, g5, g6, g7, g8, g9, g10, g28] at k7; have k8 := hE 8; simp (config := {decide := true}) only [RS, Nat.reduceAdd, g5, g6, g7, g8, g9, g10, g28] at k8; have k9 := hE 9; simp (config := {decide := true}) only [RS, Nat.reduceAdd, g5, g6, g7, g8, g9, g10, g28] at k9; have k10 := hE 10; simp (config := {decide := true}) only [RS, Nat.reduceAdd, g5, g6, g7, g8, g9, g10, g28] at k10; have k36 := hE 36; simp (config := {decide := true}) only [RS, Nat.reduceAdd, g5, g6, g7, g8, g9, g10, g28] at k36; clear hE g5 g6 g7 g8 g9 g10 g28; have g5 := k5; clear k5; have g6 := k6; clear k6; have g7 := k7; clear k7; have g8 := k8; clear k8; have g9 := k9; clear k9; have g10 := k10; clear k10; have g36 := k36; clear k36
  have ln : Nat.log2 n < 20000000002 := by unfold szF at sn; omega
  have lm : Nat.log2 m < 20000000002 := by unfold szF at sm; omega
  have lne := szF_mul sn se
  have lmd := szF_mul sm sd
  by_cases hde : d = e
  · subst hde
    have hb : Nat.beq d d = true := by rw [Nat.beq_eq]
    rw [hb] at g36
    refine Ex.ifT (by simp (config := {decide := true}) only [RS, Nat.reduceAdd, g36] <;> rfl) ?_
    have cs : ∀ k nx, callF Tryz.prog hk k 93 [.bool s, .opq (.nat n), .bool t, .opq (.nat m)] ⟨h.m, nx⟩ = some (.tup [.bool (sgnS s n t m), .opq (.nat (sgnN s n t m))], ⟨h.m, nx⟩) := fun k nx => callF_hk (B.signed sn.ok sm.ok)
    have c2 : ∀ k nx, callF Tryz.prog hk k 90 [.bool (sgnS s n t m), .opq (.nat (sgnN s n t m)), .opq (.nat d)] ⟨h.m, nx⟩ = some (.opq (mkF (sgnS s n t m) (sgnN s n t m) d), ⟨h.m, nx⟩) := fun k nx => callF_hk (B.sure (sgnN_sz ln lm) sd.ok (by omega))
    (repeat refine Ex.assoc ?_); refine Ex.step (m := 0) (by simp (config := {decide := true}) only [RS, Nat.reduceAdd, g5, g6, g8, g9, fn_signed, cs]; rfl) ?_
    refine Ex.forget fun E hE => ?_; have k7 := hE 7; simp (config := {decide := true}) only [RS, Nat.reduceAdd, g5, g6, g7, g8, g9, g10, g36] at k7; have k11 := hE 11; simp (config := {decide := true}) only [RS, Nat.reduceAdd, g5, g6, g7, g8, g9, g10, g36] at k11; have k12 := hE 12; simp (config := {decide := true}) only [RS, Nat.reduceAdd, g5, g6, g7, g8, g9, g10, g36] at k12; clear hE g5 g6 g7 g8 g9 g10 g36; have g7 := k7; clear k7; have g11 := k11; clear k11; have g12 := k12; clear k12
    (repeat refine Ex.assoc ?_); refine Ex.step (m := 0) (by simp (config := {decide := true}) only [RS, Nat.reduceAdd, g7, g11, g12, fn_sure, c2]; rfl) ?_
    refine Ex.retS ⟨trivial, _, by simp (config := {decide := true}) only [RS, Nat.reduceAdd]; rfl, ?_, fun b x hb => hb⟩
    unfold addF
    rw [if_neg hn0, sgnS_mul hd, sgnN_mul hd, mkF_mul hd]
    rfl
  · have hb : Nat.beq d e = false := by rw [← Bool.not_eq_true, Nat.beq_eq]; exact hde
    rw [hb] at g36
    refine Ex.ifF (by simp (config := {decide := true}) only [RS, Nat.reduceAdd, g36] <;> rfl) (Ex.skipS ?_)
    have c3 : ∀ k nx, callF Tryz.prog hk k 94 [.opq (.nat n), .opq (.nat e)] ⟨h.m, nx⟩ = some (.opq (.nat (n * e)), ⟨h.m, nx⟩) := fun k nx => callF_hk (B.mul sn.ok se.ok)
    have c4 : ∀ k nx, callF Tryz.prog hk k 94 [.opq (.nat m), .opq (.nat d)] ⟨h.m, nx⟩ = some (.opq (.nat (m * d)), ⟨h.m, nx⟩) := fun k nx => callF_hk (B.mul sm.ok sd.ok)
    have c5 : ∀ k nx, callF Tryz.prog hk k 94 [.opq (.nat d), .opq (.nat e)] ⟨h.m, nx⟩ = some (.opq (.nat (d * e)), ⟨h.m, nx⟩) := fun k nx => callF_hk (B.mul sd.ok se.ok)
    have cs : ∀ k nx, callF Tryz.prog hk k 93 [.bool s, .opq (.nat (n * e)), .bool t, .opq (.nat (m * d))] ⟨h.m, nx⟩ = some (.tup [.bool (sgnS s (n * e) t (m * d)), .opq (.nat (sgnN s (n * e) t (m * d)))], ⟨h.m, nx⟩) := fun k nx => callF_hk (B.signed (szOk_mul sn se) (szOk_mul sm sd))
    have c2 : ∀ k nx, callF Tryz.prog hk k 90 [.bool (sgnS s (n * e) t (m * d)), .opq (.nat (sgnN s (n * e) t (m * d))), .opq (.nat (d * e))] ⟨h.m, nx⟩ = some (.opq (mkF (sgnS s (n * e) t (m * d)) (sgnN s (n * e) t (m * d)) (d * e)), ⟨h.m, nx⟩) := fun k nx => callF_hk (B.sure (sgnN_sz lne lmd) (szOk_mul sd se) (Nat.pos_iff_ne_zero.1 (Nat.mul_pos hd he)))
    (repeat refine Ex.assoc ?_); refine Ex.step (m := 0) (by simp (config := {decide := true}) only [RS, Nat.reduceAdd, g5, g6, g7, g8, g9, g10, fn_mul, c3, c4, fn_signed, cs]; rfl) ?_
    refine Ex.forget fun E hE => ?_; have k7 := hE 7; simp (config := {decide := true}) only [RS, Nat.reduceAdd, g5, g6, g7, g8, g9, g10, g36] at k7; have k10 := hE 10; simp (config := {decide := true}) only [RS, Nat.reduceAdd, g5, g6, g7, g8, g9, g10, g36] at k10; have k13 := hE 13; simp (config := {decide := true}) only [RS, Nat.reduceAdd, g5, g6, g7, g8, g9, g10, g36] at k13; have k14 := hE 14; simp (config := {decide := true}) only [RS, Nat.reduceAdd, g5, g6, g7, g8, g9, g10, g36] at k14; clear hE g5 g6 g7 g8 g9 g10 g36; have g7 := k7; clear k7; have g10 := k10; clear k10; have g13 := k13; clear k13; have g14 := k14; clear k14
    (repeat refine Ex.assoc ?_); refine Ex.step (m := 0) (by simp (config := {decide := true}) only [RS, Nat.reduceAdd, g7, g10, g13, g14, fn_mul, c5, fn_sure, c2]; rfl) ?_
    refine Ex.ret ⟨trivial, _, by simp (config := {decide := true}) only [RS, Nat.reduceAdd]; rfl, ?_, fun b x hb => hb⟩
    unfold addF
    rw [if_neg hn0]
    rfl
end Go.Vk
set_option linter.unusedSimpArgs false
set_option linter.unusedVariables false
set_option maxRecDepth 100000
set_option maxHeartbeats 4000000
namespace Go.Vk
open Go.Proofs (Tryz.prog)
theorem fn_fmul : fnE Tryz.prog 47 = some ⟨(Go.Proofs.Tryz.f47.body).getD .skip, 33, [.tmp 4]⟩ := by kernel_rfl
theorem fmul_run {hk : Hooks} (B : FrHk3 hk) (hn : ∀ a h, hk 47 a h = none) {h : Hp} {v w : AV} {s t : Bool} {n d m e : Nat} (hv : frV v = some (s, n, d)) (hw : frV w = some (t, m, e))
    (sn : szF n) (sd : szF d) (sm : szF m) (se : szF e) (hd : 0 < d) (he : 0 < e) :
    ExF Tryz.prog hk 47 [v, w] h fun r' h1 => r' = .opq (mkF (!(s == t)) (n * m) (d * e)) ∧ h.sub h1 := by
  refine ExF.body fn_fmul (hn _ _) (by simp) ?_
  simp only [Go.Proofs.Tryz.f47, Option.getD_some]
  have cp : ∀ m nx, callF Tryz.prog hk m 80 [v] ⟨h.m, nx⟩ = some (.tup [.bool s, .opq (.nat n), .opq (.nat d)], ⟨h.m, nx⟩) := fun m nx => callF_hk (B.partsV hv)
  have cq : ∀ k nx, callF Tryz.prog hk k 80 [w] ⟨h.m, nx⟩ = some (.tup [.bool t, .opq (.nat m), .opq (.nat e)], ⟨h.m, nx⟩) := fun k nx => callF_hk (B.partsV hw)
  have c1 : ∀ k nx, callF Tryz.prog hk k 94 [.opq (.nat n), .opq (.nat m)] ⟨h.m, nx⟩ = some (.opq (.nat (n * m)), ⟨h.m, nx⟩) := fun k nx => callF_hk (B.mul sn.ok sm.ok)
  have c2 : ∀ k nx, callF Tryz.prog hk k 94 [.opq (.nat d), .opq (.nat e)] ⟨h.m, nx⟩ = some (.opq (.nat (d * e)), ⟨h.m, nx⟩) := fun k nx => callF_hk (B.mul sd.ok se.ok)
  have c3 : ∀ k nx, callF Tryz.prog hk k 90 [.bool (!(s == t)), .opq (.nat (n * m)), .opq (.nat (d * e))] ⟨h.m, nx⟩ = some (.opq (mkF (!(s == t)) (n * m) (d * e)), ⟨h.m, nx⟩) := fun k nx => callF_hk (B.sure (szOk_mul sn sm) (szOk_mul sd se) (Nat.pos_iff_ne_zero.1 (Nat.mul_pos hd he)))
  (repeat refine Ex.assoc ?_); refine Ex.step (m := 0) (by simp (config := {decide := true}) only [RS, Nat.reduceAdd]; rfl) ?_
  refine Ex.forget fun E hE => ?_; have k0 := hE 0; simp (config := {decide := true}) only [RS, Nat.reduceAdd] at k0; have k1 := hE 1; simp (config := {decide := true}) only [RS, Nat.reduceAdd] at k1; clear hE; have g0 := k0; clear k0; have g1 := k1; clear k1
  (repeat refine Ex.assoc ?_); refine Ex.step (m := 0) (by simp (config := {decide := true}) only [RS, Nat.reduceAdd, g0, fn_parts, cp]; rfl) ?_
  refine Ex.forget fun E hE => ?_; have k1 := hE 1; simp (config := {decide := true}) only [RS, Nat.reduceAdd, g0, g1] at k1; have k5 := hE 5; simp (config := {decide := true}) only [RS, Nat.reduceAdd, g0, g1] at k5; have k6 := hE 6; simp (config := {decide := true}) only [RS, Nat.reduceAdd, g0, g1] at k6; have k7 := hE 7; simp (config := {decide := true}) only [RS, Nat.reduceAdd, g0, g1] at k7; clear hE g0 g1; have g1 := k1; clear k1; have g5 := k5; clear k5; have g6 := k6; clear k6; have g7 := k7; clear k7
  (repeat refine Ex.assoc ?_); refine Ex.step (m := 0) (by simp (config := {decide := true}) only [RS, Nat.reduceAdd, g1, fn_parts, cq]; rfl) ?_
  refine Ex.forget fun E hE => ?_; have k5 := hE 5; simp (config := {decide := true}) only [RS, Nat.reduceAdd, g1, g5, g6, g7] at k5; have k6 := hE 6; simp (config := {decide := true}) only [RS, Nat.reduceAdd, g1, g5, g6, g7] at k6; have k7 := hE 7; simp (config := {decide := true}) only [RS, Nat.reduceAdd, g1, g5, g6, g7] at k7; have k8 := hE 8; simp (config := {decide := true}) only [RS, Nat.reduceAdd, g1, g5, g6, g7] at k8; have k9 := hE 9; simp (config := {decide := true}) only [RS, Nat.reduceAdd, g1, g5, g6, g7] at k9; have k10 := hE 10; simp (config := {decide := true}) only [RS, Nat.reduceAdd, g1, g5, g6, g7] at k10; clear hE g1 g5 g6 g7; have g5 := k5; clear k5; have g6 := k6; clear k6; have g7 := k7; clear k7; have g8 := k8; clear k8; have g9 := k9; clear k9; have g10 := k10; clear k10
  (repeat refine Ex.assoc ?_); refine Ex.step (m := 0) (by simp (config := {decide := true}) only [RS, Nat.reduceAdd, g5, g6, g7, g8, g9, g10, aEq, tBool, fn_mul, c1, c2, fn_sure, c3]; rfl) ?_
  refine Ex.ret ⟨trivial, _, by simp (config := {decide := true}) only [RS, Nat.reduceAdd]; rfl, ?_, fun b x hb => hb⟩
  simp (config := {decide := true}) only [RS, Nat.reduceAdd]
theorem fn_fdiv : fnE Tryz.prog 45 = some ⟨(Go.Proofs.Tryz.f45.body).getD .skip, 36, [.tmp 4, .tmp 5]⟩ := by kernel_rfl
def divF (s : Bool) (n d : Nat) (t : Bool) (m e : Nat) : AV := if m = 0 then .tup [.nilp, .bool false] else .tup [.opq (mkF (!(s == t)) (n * e) (d * m)), .bool true]
theorem fdiv_run {hk : Hooks} (B : FrHk3 hk) (hn : ∀ a h, hk 45 a h = none) {h : Hp} {v w : AV} {s t : Bool} {n d m e : Nat} (hv : frV v = some (s, n, d)) (hw : frV w = some (t, m, e))
    (sn : szF n) (sd : szF d) (sm : szF m) (se : szF e) (hd : 0 < d) (he : 0 < e) :
    ExF Tryz.prog hk 45 [v, w] h fun r' h1 => r' = divF s n d t m e ∧ h.sub h1 := by
  refine ExF.body fn_fdiv (hn _ _) (by simp) ?_
  simp only [Go.Proofs.Tryz.f45, Option.getD_some]
  have cp : ∀ m nx, callF Tryz.prog hk m 80 [v] ⟨h.m, nx⟩ = some (.tup [.bool s, .opq (.nat n), .opq (.nat d)], ⟨h.m, nx⟩) := fun m nx => callF_hk (B.partsV hv)
  have cq : ∀ k nx, callF Tryz.prog hk k 80 [w] ⟨h.m, nx⟩ = some (.tup [.bool t, .opq (.nat m), .opq (.nat e)], ⟨h.m, nx⟩) := fun k nx => callF_hk (B.partsV hw)
  have c1 : ∀ k nx, callF Tryz.prog hk k 94 [.opq (.nat n), .opq (.nat e)] ⟨h.m, nx⟩ = some (.opq (.nat (n * e)), ⟨h.m, nx⟩) := fun k nx => callF_hk (B.mul sn.ok se.ok)
  have c2 : ∀ k nx, callF Tryz.prog hk k 94 [.opq (.nat d), .opq (.nat m)] ⟨h.m, nx⟩ = some (.opq (.nat (d * m)), ⟨h.m, nx⟩) := fun k nx => callF_hk (B.mul sd.ok sm.ok)
  (repeat refine Ex.assoc ?_); refine Ex.step (m := 0) (by simp (config := {decide := true}) only [RS, Nat.reduceAdd]; rfl) ?_
  refine Ex.forget fun E hE => ?_; have k0 := hE 0; simp (config := {decide := true}) only [RS, Nat.reduceAdd] at k0; have k1 := hE 1; simp (config := {decide := true}) only [RS, Nat.reduceAdd] at k1; clear hE; have g0 := k0; clear k0; have g1 := k1; clear k1
  (repeat refine Ex.assoc ?_); refine Ex.step (m := 0) (by simp (config := {decide := true}) only [RS, Nat.reduceAdd, g0, fn_parts, cp]; rfl) ?_
  refine Ex.forget fun E hE => ?_; have k1 := hE 1; simp (config := {decide := true}) only [RS, Nat.reduceAdd, g0, g1] at k1; have k6 := hE 6; simp (config := {decide := true}) only [RS, Nat.reduceAdd, g0, g1] at k6; have k7 := hE 7; simp (config := {decide := true}) only [RS, Nat.reduceAdd, g0, g1] at k7; have k8 := hE 8; simp (config := {decide := true}) only [RS, Nat.reduceAdd, g0, g1] at k8; clear hE g0 g1; have g1 := k1; clear k1; have g6 := k6; clear k6; have g7 := k7; clear k7; have g8 := k8; clear k8
  (repeat refine Ex.assoc ?_); refine Ex.step (m := 0) (by simp (config := {decide := true}) only [RS, Nat.reduceAdd, g1, fn_parts, cq]; rfl) ?_
  refine Ex.forget fun E hE => ?_; have k6 := hE 6; simp (config := {decide := true}) only [RS, Nat.reduceAdd, g1, g6, g7, g8] at k6; have k7 := hE 7; simp (config := {decide := true}) only [RS, Nat.reduceAdd, g1, g6, g7, g8] at k7; have k8 := hE 8; simp (config := {decide := true}) only [RS, Nat.reduceAdd, g1, g6, g7, g8] at k8; have k9 := hE 9; simp (config := {decide := true}) only [RS, Nat.reduceAdd, g1, g6, g7, g8] at k9; have k10 := hE 10; simp (config := {decide := true}) only [RS, Nat.reduceAdd, g1, g6, g7, g8] at k10; have k11 := hE 11; simp (config := {decide := true}) only [RS, Nat.reduceAdd, g1, g6, g7, g8] at k11; clear hE g1 g6 g7 g8; have g6 := k6; clear k6; have g7 := k7; clear k7; have g8 := k8; clear k8; have g9 := k9; clear k9; have g10 := k10; clear k10; have g11 := k11; clear k11
  by_cases h0 : m = 0
  · subst h0
    have c3 : ∀ k nx, callF Tryz.prog hk k 95 [.bool (!(s == t)), .opq (.nat (n * e)), .opq (.nat (d * 0))] ⟨h.m, nx⟩ = some (.tup [.nilp, .bool false], ⟨h.m, nx⟩) := fun k nx => callF_hk (B.new0 (szOk_mul sn se))
    (repeat refine Ex.assoc ?_); refine Ex.step (m := 0) (by simp (config := {decide := true}) only [RS, Nat.reduceAdd, g6, g7, g8, g9, g10, g11, aEq, tBool, fn_mul, c1, c2, fn_new, c3]; rfl) ?_
    refine Ex.ret ⟨trivial, _, by simp (config := {decide := true}) only [RS, Nat.reduceAdd]; rfl, ?_, fun b x hb => hb⟩
    unfold divF
    rw [if_pos rfl]
    rfl
  · have c3 : ∀ k nx, callF Tryz.prog hk k 95 [.bool (!(s == t)), .opq (.nat (n * e)), .opq (.nat (d * m))] ⟨h.m, nx⟩ = some (.tup [.opq (mkF (!(s == t)) (n * e) (d * m)), .bool true], ⟨h.m, nx⟩) := fun k nx => callF_hk (B.new (szOk_mul sn se) (szOk_mul sd sm) (Nat.pos_iff_ne_zero.1 (Nat.mul_pos hd (by omega))))
    (repeat refine Ex.assoc ?_); refine Ex.step (m := 0) (by simp (config := {decide := true}) only [RS, Nat.reduceAdd, g6, g7, g8, g9, g10, g11, aEq, tBool, fn_mul, c1, c2, fn_new, c3]; rfl) ?_
    refine Ex.ret ⟨trivial, _, by simp (config := {decide := true}) only [RS, Nat.reduceAdd]; rfl, ?_, fun b x hb => hb⟩
    unfold divF
    rw [if_neg h0]
    rfl
theorem fn_floor : fnE Tryz.prog 208 = some ⟨(Go.Proofs.Tryz.f208.body).getD .skip, 35, [.tmp 2]⟩ := by kernel_rfl
def floorN (s : Bool) (n d : Nat) : Nat := if (s && !(Nat.beq (n % d) 0)) = true then n / d + 1 else n / d
theorem floor_run {hk : Hooks} (B : FrHk3 hk) (hn : ∀ a h, hk 208 a h = none) {h : Hp} {v : AV} {s : Bool} {n d : Nat} (hv : frV v = some (s, n, d)) (sn : szF n) (sd : szF d) (hd : 0 < d) :
    ExF Tryz.prog hk 208 [v] h fun r' h1 => r' = .opq (mkF s (floorN s n d) 1) ∧ h.sub h1 := by
  refine ExF.body fn_floor (hn _ _) (by simp) ?_
  simp only [Go.Proofs.Tryz.f208, Option.getD_some]
  have cp : ∀ m nx, callF Tryz.prog hk m 80 [v] ⟨h.m, nx⟩ = some (.tup [.bool s, .opq (.nat n), .opq (.nat d)], ⟨h.m, nx⟩) := fun m nx => callF_hk (B.partsV hv)
  have sz1 : szOk 1 := by unfold szOk; decide
  have sq : szOk (n / d) := szOk_div sn.ok
  have sr : szOk (n % d) := by
    have := Nat.mod_lt n hd
    exact szOk_lt1 this sd.ok
  have sq1 : szOk (n / d + 1) := by
    unfold szF at sn
    refine szOk_add ?_ (by decide)
    by_cases h0 : n / d = 0
    · rw [h0]; decide
    · have hne : n ≠ 0 := fun e => by subst e; simp at h0
      have h1 : n / d < 2 ^ (Nat.log2 n + 1) := Nat.lt_of_le_of_lt (Nat.div_le_self _ _) Nat.lt_log2_self
      have := (Nat.log2_lt h0).2 h1
      omega
  have cd : ∀ m nx, callF Tryz.prog hk m 136 [.opq (.nat n), .opq (.nat d)] ⟨h.m, nx⟩ = some (.tup [.opq (.nat (n / d)), .opq (.nat (n % d)), .bool true], ⟨h.m, nx⟩) := fun m nx => callF_hk (B.div sn.ok sd.ok hd)
  have cz : ∀ m nx, callF Tryz.prog hk m 89 [.opq (.nat (n % d))] ⟨h.m, nx⟩ = some (.bool (Nat.beq (n % d) 0), ⟨h.m, nx⟩) := fun m nx => callF_hk (B.zero sr)
  have c1 : ∀ m nx, callF Tryz.prog hk m 75 [.int .u64 1] ⟨h.m, nx⟩ = some (.opq (.nat 1), ⟨h.m, nx⟩) := fun m nx => callF_hk (B.Of (a := 1) (by omega))
  have ca : ∀ m nx, callF Tryz.prog hk m 131 [.opq (.nat (n / d)), .opq (.nat 1)] ⟨h.m, nx⟩ = some (.opq (.nat (n / d + 1)), ⟨h.m, nx⟩) := fun m nx => callF_hk (B.add sq sz1)
  have cs : ∀ x, szOk x → ∀ m nx, callF Tryz.prog hk m 90 [.bool s, .opq (.nat x), .opq (.nat 1)] ⟨h.m, nx⟩ = some (.opq (mkF s x 1), ⟨h.m, nx⟩) := fun x hx m nx => callF_hk (B.sure hx sz1 (by omega))
  (repeat refine Ex.assoc ?_); refine Ex.step (m := 0) (by simp (config := {decide := true}) only [RS, Nat.reduceAdd]; rfl) ?_
  refine Ex.forget fun E hE => ?_; have k0 := hE 0; simp (config := {decide := true}) only [RS, Nat.reduceAdd] at k0; clear hE; have g0 := k0; clear k0
  (repeat refine Ex.assoc ?_); refine Ex.step (m := 0) (by simp (config := {decide := true}) only [RS, Nat.reduceAdd, g0, fn_parts, cp]; rfl) ?_
  refine Ex.forget fun E hE => ?_; have k3 := hE 3; simp (config := {decide := true}) only [RS, Nat.reduceAdd, g0] at k3; have k4 := hE 4; simp (config := {decide := true}) only [RS, Nat.reduceAdd, g0] at k4; have k5 := hE 5; simp (config := {decide := true}) only [RS, Nat.reduceAdd, g0] at k5; clear hE g0; have g3 := k3; clear k3; have g4 := k4; clear k4; have g5 := k5; clear k5
  (repeat refine Ex.assoc ?_); refine Ex.step (m := 0) (by simp (config := {decide := true}) only [RS, Nat.reduceAdd, g4, g5, fn_div, cd]; rfl) ?_
  refine Ex.forget fun E hE => ?_; have k3 := hE 3; simp (config := {decide := true}) only [RS, Nat.reduceAdd, g3, g4, g5] at k3; have k6 := hE 6; simp (config := {decide := true}) only [RS, Nat.reduceAdd, g3, g4, g5] at k6; have k7 := hE 7; simp (config := {decide := true}) only [RS, Nat.reduceAdd, g3, g4, g5] at k7; clear hE g3 g4 g5; have g3 := k3; clear k3; have g6 := k6; clear k6; have g7 := k7; clear k7
  (repeat refine Ex.assoc ?_)
  refine Ex.cut (fun env h' => env.get 3 = some (.bool s) ∧ env.get 6 = some (.opq (.nat (n / d))) ∧ env.get 27 = some (.bool (s && !(Nat.beq (n % d) 0))) ∧ h'.m = h.m) ?_ ?_
  · cases s with
    | true =>
      refine Ex.last (m := 0) (by simp (config := {decide := true}) only [RS, Nat.reduceAdd, g3, g7, fn_zero, cz]; rfl) ?_
      simp (config := {decide := true}) only [thenK, blockK, ite_true, ite_false, if_true, if_false]
      exact ⟨by simp (config := {decide := true}) only [RS, Nat.reduceAdd, g3], by simp (config := {decide := true}) only [RS, Nat.reduceAdd, g6], by simp (config := {decide := true}) only [RS, Nat.reduceAdd], by trivial⟩
    | false =>
      refine Ex.last (m := 0) (by simp (config := {decide := true}) only [RS, Nat.reduceAdd, g3, g7]; rfl) ?_
      simp (config := {decide := true}) only [thenK, blockK, ite_true, ite_false, if_true, if_false]
      exact ⟨by simp (config := {decide := true}) only [RS, Nat.reduceAdd, g3], by simp (config := {decide := true}) only [RS, Nat.reduceAdd, g6], by simp (config := {decide := true}) only [RS, Nat.reduceAdd, Bool.false_and], by trivial⟩
  clear g3 g6 g7
  rintro env ⟨M0, N0⟩ ⟨g3, g6, g27, e1⟩
  dsimp only at e1
  subst e1
  have hfl : floorN s n d = if (s && !(Nat.beq (n % d) 0)) = true then n / d + 1 else n / d := rfl
  cases hb : (s && !(Nat.beq (n % d) 0)) with
  | true =>
    rw [hb] at g27 hfl
    have hfl' : floorN s n d = n / d + 1 := hfl.trans (if_pos rfl)
    refine Ex.ifT (by simp (config := {decide := true}) only [RS, Nat.reduceAdd, g27] <;> rfl) ?_
    (repeat refine Ex.assoc ?_); refine Ex.step (m := 0) (by simp (config := {decide := true}) only [RS, Nat.reduceAdd, g6, fn_Of, c1, fn_add, ca]; rfl) ?_
    refine Ex.forget fun E hE => ?_; have k3 := hE 3; simp (config := {decide := true}) only [RS, Nat.reduceAdd, g3, g6, g27] at k3; have k6 := hE 6; simp (config := {decide := true}) only [RS, Nat.reduceAdd, g3, g6, g27] at k6; clear hE g3 g6 g27; have g3 := k3; clear k3; have g6 := k6; clear k6
    have csx := cs (n / d + 1) sq1
    (repeat refine Ex.assoc ?_); refine Ex.step (m := 0) (by simp (config := {decide := true}) only [RS, Nat.reduceAdd, g3, g6, fn_Of, c1, fn_sure, csx]; rfl) ?_
    refine Ex.ret ⟨trivial, _, by simp (config := {decide := true}) only [RS, Nat.reduceAdd]; rfl, ?_, fun b x hb => hb⟩
    simp (config := {decide := true}) only [RS, Nat.reduceAdd, hfl']
  | false =>
    rw [hb] at g27 hfl
    have hfl' : floorN s n d = n / d := hfl.trans (if_neg Bool.false_ne_true)
    refine Ex.ifF (by simp (config := {decide := true}) only [RS, Nat.reduceAdd, g27] <;> rfl) (Ex.skipS ?_)
    have csx := cs (n / d) sq
    (repeat refine Ex.assoc ?_); refine Ex.step (m := 0) (by simp (config := {decide := true}) only [RS, Nat.reduceAdd, g3, g6, fn_Of, c1, fn_sure, csx]; rfl) ?_
    refine Ex.ret ⟨trivial, _, by simp (config := {decide := true}) only [RS, Nat.reduceAdd]; rfl, ?_, fun b x hb => hb⟩
    simp (config := {decide := true}) only [RS, Nat.reduceAdd, hfl']
/-! ### texts -/
theorem dec_one {d : Nat} : (dec d == [49]) = Nat.beq d 1 := by
  obtain ⟨k, h1, h2, h3⟩ := exists_digits d
  have hp := dec_pad h1 h2 h3
  by_cases h : d = 1
  · subst h; rfl
  · have hb : Nat.beq d 1 = false := by rw [← Bool.not_eq_true, Nat.beq_eq]; exact h
    rw [hb, beq_eq_false_iff_ne]
    intro e
    rw [hp] at e
    have hl : k = 1 := by
      have := congrArg List.length e
      rw [pad_length] at this
      exact this
    subst hl
    simp [pad] at e
    omega
theorem dec_len_sz {n : Nat} (h : szF n) : (dec n).length ≤ 10000000001 := by
  have h1 := Nat.lt_log2_self (n := n)
  have h2 : 2 ^ (Nat.log2 n + 1) ≤ 10 ^ (Nat.log2 n + 1) := Nat.pow_le_pow_left (by omega) _
  have := (dec_len (r := n) (k := Nat.log2 n + 1) (by omega) (by omega)).1
  unfold szF at h
  omega
def txtF (s : Bool) (n d : Nat) : List Nat := (if s = true then 45 :: dec n else dec n) ++ (if d = 1 then [] else 47 :: dec d)
theorem bytes_minus : bytesOf ({ data := #[45] } : ByteArray) = [45] := by decide
theorem bytes_slash : bytesOf ({ data := #[47] } : ByteArray) = [47] := by decide
theorem bytes_1 : bytesOf ({ data := #[49] } : ByteArray) = [49] := by decide
theorem fn_ftext : fnE Tryz.prog 39 = some ⟨(Go.Proofs.Tryz.f39.body).getD .skip, 28, [.tmp 2]⟩ := by kernel_rfl
theorem ftext_run {hk : Hooks} (B : FrHk3 hk) (hn : ∀ a h, hk 39 a h = none) {h : Hp} (hp : hasPow h = true) {v : AV} {s : Bool} {n d : Nat} (hv : frV v = some (s, n, d)) (sn : szF n) (sd : szF d) :
    ExF Tryz.prog hk 39 [v] h fun r' h1 => r' = .str (txtF s n d) ∧ h.sub h1 := by
  refine ExF.body fn_ftext (hn _ _) (by simp) ?_
  simp only [Go.Proofs.Tryz.f39, Option.getD_some]
  have cp : ∀ m nx, callF Tryz.prog hk m 80 [v] ⟨h.m, nx⟩ = some (.tup [.bool s, .opq (.nat n), .opq (.nat d)], ⟨h.m, nx⟩) := fun m nx => callF_hk (B.partsV hv)
  have c1 : ∀ m nx, callF Tryz.prog hk m 81 [.opq (.nat n)] ⟨h.m, nx⟩ = some (.str (dec n), ⟨h.m, nx⟩) := fun m nx => callF_hk (B.text sn.ok hp)
  have c2 : ∀ m nx, callF Tryz.prog hk m 81 [.opq (.nat d)] ⟨h.m, nx⟩ = some (.str (dec d), ⟨h.m, nx⟩) := fun m nx => callF_hk (B.text sd.ok hp)
  have l1 := dec_len_sz sn
  have l2 := dec_len_sz sd
  have hmost : strMost = 4611686018427387904 := rfl
  (repeat refine Ex.assoc ?_); refine Ex.step (m := 0) (by simp (config := {decide := true}) only [RS, Nat.reduceAdd, bytes_nil]; rfl) ?_
  refine Ex.forget fun E hE => ?_; have k0 := hE 0; simp (config := {decide := true}) only [RS, Nat.reduceAdd] at k0; clear hE; have g0 := k0; clear k0
  (repeat refine Ex.assoc ?_); refine Ex.step (m := 0) (by simp (config := {decide := true}) only [RS, Nat.reduceAdd, g0, fn_parts, cp]; rfl) ?_
  refine Ex.forget fun E hE => ?_; have k3 := hE 3; simp (config := {decide := true}) only [RS, Nat.reduceAdd, g0] at k3; have k4 := hE 4; simp (config := {decide := true}) only [RS, Nat.reduceAdd, g0] at k4; have k5 := hE 5; simp (config := {decide := true}) only [RS, Nat.reduceAdd, g0] at k5; clear hE g0; have g3 := k3; clear k3; have g4 := k4; clear k4; have g5 := k5; clear k5
  (repeat refine Ex.assoc ?_); refine Ex.step (m := 0) (by simp (config := {decide := true}) only [RS, Nat.reduceAdd, g4, fn_text, c1]; rfl) ?_
  refine Ex.forget fun E hE => ?_; have k3 := hE 3; simp (config := {decide := true}) only [RS, Nat.reduceAdd, g3, g4, g5] at k3; have k5 := hE 5; simp (config := {decide := true}) only [RS, Nat.reduceAdd, g3, g4, g5] at k5; have k6 := hE 6; simp (config := {decide := true}) only [RS, Nat.reduceAdd, g3, g4, g5] at k6; clear hE g3 g4 g5; have g3 := k3; clear k3; have g5 := k5; clear k5; have g6 := k6; clear k6
  (repeat refine Ex.assoc ?_); refine Ex.step (m := 0) (by simp (config := {decide := true}) only [RS, Nat.reduceAdd, g3]; rfl) ?_
  refine Ex.forget fun E hE => ?_; have k3 := hE 3; simp (config := {decide := true}) only [RS, Nat.reduceAdd, g3, g5, g6] at k3; have k5 := hE 5; simp (config := {decide := true}) only [RS, Nat.reduceAdd, g3, g5, g6] at k5; have k6 := hE 6; simp (config := {decide := true}) only [RS, Nat.reduceAdd, g3, g5, g6] at k6; have k16 := hE 16; simp (config := {decide := true}) only [RS, Nat.reduceAdd, g3, g5, g6] at k16; clear hE g3 g5 g6; have g3 := k3; clear k3; have g5 := k5; clear k5; have g6 := k6; clear k6; have g16 := k16; clear k16
  (repeat refine Ex.assoc ?_)
  refine Ex.cut (fun env h' => ∃ a, a = (if s = true then 45 :: dec n else dec n) ∧ a.length ≤ 10000000002 ∧ env.get 5 = some (.opq (.nat d)) ∧ env.get 6 = some (.str a) ∧ h'.m = h.m) ?_ ?_
  · cases s with
    | true =>
      refine Ex.cond_true (by simp (config := {decide := true}) only [RS, Nat.reduceAdd, g16] <;> rfl) ?_
      have hcat : 1 + (dec n).length ≤ strMost := by omega
      have hl1 : ([45] : List Nat).length = 1 := rfl
      refine Ex.last (m := 0) (by simp (config := {decide := true}) only [RS, Nat.reduceAdd, g6, bytes_minus, aStr, hl1, hcat]; rfl) ?_
      simp (config := {decide := true}) only [thenK, blockK, ite_true, ite_false, if_true, if_false]
      exact ⟨45 :: dec n, rfl, by simp only [List.length_cons]; omega, by simp (config := {decide := true}) only [RS, Nat.reduceAdd, g5], by simp (config := {decide := true}) only [RS, Nat.reduceAdd], by trivial⟩
    | false =>
      refine Ex.cond_false (by simp (config := {decide := true}) only [RS, Nat.reduceAdd, g16] <;> rfl) (Ex.skip ?_)
      simp (config := {decide := true}) only [thenK, blockK, ite_true, ite_false, if_true, if_false]
      exact ⟨dec n, rfl, by omega, g5, g6, by trivial⟩
  clear g3 g5 g6 g16
  rintro env ⟨M0, N0⟩ ⟨a, ha, la, g5, g6, e1⟩
  dsimp only at e1
  subst e1
  (repeat refine Ex.assoc ?_); refine Ex.step (m := 0) (by simp (config := {decide := true}) only [RS, Nat.reduceAdd, g5, fn_text, c2]; rfl) ?_
  refine Ex.forget fun E hE => ?_; have k6 := hE 6; simp (config := {decide := true}) only [RS, Nat.reduceAdd, g5, g6] at k6; have k7 := hE 7; simp (config := {decide := true}) only [RS, Nat.reduceAdd, g5, g6] at k7; clear hE g5 g6; have g6 := k6; clear k6; have g7 := k7; clear k7
  (repeat refine Ex.assoc ?_); refine Ex.step (m := 0) (by simp (config := {decide := true}) only [RS, Nat.reduceAdd, g7, bytes_1, aStr, dec_one]; rfl) ?_
  refine Ex.forget fun E hE => ?_; have k6 := hE 6; simp (config := {decide := true}) only [RS, Nat.reduceAdd, g6, g7] at k6; have k7 := hE 7; simp (config := {decide := true}) only [RS, Nat.reduceAdd, g6, g7] at k7; have k22 := hE 22; simp (config := {decide := true}) only [RS, Nat.reduceAdd, g6, g7] at k22; clear hE g6 g7; have g6 := k6; clear k6; have g7 := k7; clear k7; have g22 := k22; clear k22
  (repeat refine Ex.assoc ?_)
  refine Ex.cut (fun env h' => env.get 6 = some (.str (txtF s n d)) ∧ h'.m = h.m) ?_ ?_
  · by_cases h1 : d = 1
    · have hb : Nat.beq d 1 = true := by rw [Nat.beq_eq]; exact h1
      rw [hb] at g22
      refine Ex.cond_false (by simp (config := {decide := true}) only [RS, Nat.reduceAdd, g22] <;> rfl) (Ex.skip ?_)
      simp (config := {decide := true}) only [thenK, blockK, ite_true, ite_false, if_true, if_false]
      refine ⟨?_, by trivial⟩
      rw [g6, ha]
      unfold txtF
      rw [if_pos h1, List.append_nil]
    · have hb : Nat.beq d 1 = false := by rw [← Bool.not_eq_true, Nat.beq_eq]; exact h1
      rw [hb] at g22
      refine Ex.cond_true (by simp (config := {decide := true}) only [RS, Nat.reduceAdd, g22] <;> rfl) ?_
      have hcat : 1 + (dec d).length ≤ strMost := by omega
      have hl1 : ([47] : List Nat).length = 1 := rfl
      have hl2 : (47 :: dec d).length = (dec d).length + 1 := rfl
      have hcat2 : a.length + ((dec d).length + 1) ≤ strMost := by omega
      refine Ex.last (m := 0) (by simp (config := {decide := true}) only [RS, Nat.reduceAdd, g6, g7, bytes_slash, aStr, hl1, hcat, hl2, hcat2]; rfl) ?_
      simp (config := {decide := true}) only [thenK, blockK, ite_true, ite_false, if_true, if_false]
      refine ⟨?_, by trivial⟩
      simp (config := {decide := true}) only [RS, Nat.reduceAdd]
      rw [ha]
      unfold txtF
      rw [if_neg h1]
  clear g6 g7 g22
  rintro env ⟨M0, N0⟩ ⟨g6, e1⟩
  dsimp only at e1
  subst e1
  (repeat refine Ex.assoc ?_); refine Ex.step (m := 0) (by simp (config := {decide := true}) only [RS, Nat.reduceAdd, g6]; rfl) ?_
  refine Ex.ret ⟨trivial, _, by simp (config := {decide := true}) only [RS, Nat.reduceAdd]; rfl, ?_, fun b x hb => hb⟩
  simp (config := {decide := true}) only [RS, Nat.reduceAdd]
end Go.Vk
