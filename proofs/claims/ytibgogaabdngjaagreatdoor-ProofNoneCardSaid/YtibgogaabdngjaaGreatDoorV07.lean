/- Part of a proof. Numbers that runs made; a number of digits that are there. Long division: small divisors; the pieces of the general case. Long division. Greatest common divisors by shifts. Greatest common divisors by shifts: the run. Greatest common divisors. Decimal digits; the library's tables of them. -/
import Derived.Test.YtibgogaabdngjaaGreatDoorV06
set_option linter.unusedSimpArgs false
set_option linter.unusedVariables false
set_option maxRecDepth 100000
set_option maxHeartbeats 4000000
namespace Go.Vk
open Go.Proofs (Tryz.prog)
theorem Hp.sub.trans {a b c : Hp} (h1 : a.sub b) (h2 : b.sub c) : a.sub c := fun i x hi => h2 i x (h1 i x hi)
theorem sub_m {a b : Hp} (h : b.m = a.m) : a.sub b := fun i x hi => by rw [h]; exact hi
theorem DigAt.sub {h h' : Hp} {sl : AV} {ds bs : List Nat} (hd : DigAt h sl ds bs) (hs : h.sub h') : DigAt h' sl ds bs := by
  rcases hd with hd | ⟨rb, off, cap, ex, rfl, rfl, hg, hc⟩
  · exact .inl hd
  · refine .inr ⟨rb, off, cap, ex, rfl, rfl, ?_, hc⟩
    obtain ⟨all, ro, hb, _⟩ := getCells_some hg
    unfold getCells at hg ⊢
    rw [hs _ _ hb]
    rw [hb] at hg
    exact hg
theorem NatAt.sub {h h' : Hp} {v : AV} {ds bs : List Nat} (hn : NatAt h v ds bs) (hs : h.sub h') : NatAt h' v ds bs := by
  obtain ⟨b, o, cells, ro, sl, bs', e1, e2, e3, e4, e5⟩ := hn
  exact ⟨b, o, cells, ro, sl, bs', e1, e2, hs _ _ e3, e4, e5.sub hs⟩
theorem NatAt.num {h : Hp} {v : AV} {ds bs : List Nat} (hn : NatAt h v ds bs) : ∃ b bs', bs = b :: bs' ∧ NumAt h v ds bs' := by
  obtain ⟨b, o, cells, ro, sl, bs', rfl, rfl, k1, k2, k3⟩ := hn
  refine ⟨b, bs', rfl, sl, ?_, k3⟩
  have hc : cellAt h b o = some sl := by unfold cellAt; rw [k1]; exact k2
  unfold digitsA
  simp only
  rw [hc]
  rcases k3 with ⟨_, _, rfl | rfl⟩ | ⟨rb, off, cap, ex, _, rfl, _⟩ <;> rfl
theorem Made.sub {h h1 h2 : Hp} {v : AV} {n : Nat} {A : List Nat} (hm : Made h h1 v n A) (hs : h1.sub h2) : Made h h2 v n A := by
  obtain ⟨ds, bs, e1, e2, e3, e4, e5⟩ := hm
  refine ⟨ds, bs, e1.sub hs, e2, e3, e4.trans hs, fun b hb => ?_⟩
  rcases e5 b hb with ⟨g1, x, g2, g3⟩ | g
  · exact .inl ⟨g1, x, hs _ _ g2, g3⟩
  · exact .inr g
theorem Made.base {h h1 h2 : Hp} {v : AV} {n : Nat} {A A' : List Nat} (hm : Made h1 h2 v n A) (hs : h.sub h1) (hA : ∀ b ∈ A, (h.m.get b = none ∧ ∃ x, h2.m.get b = some x ∧ x.rw = true) ∨ b ∈ A') : Made h h2 v n A' := by
  obtain ⟨ds, bs, e1, e2, e3, e4, e5⟩ := hm
  refine ⟨ds, bs, e1, e2, e3, hs.trans e4, fun b hb => ?_⟩
  rcases e5 b hb with ⟨g1, x, g2, g3⟩ | g
  · refine .inl ⟨?_, x, g2, g3⟩
    cases hg : h.m.get b with
    | none => rfl
    | some y => rw [hs b y hg] at g1; cases g1
  · exact hA b g
theorem Made.hsub {h h1 : Hp} {v : AV} {n : Nat} {A : List Nat} (hm : Made h h1 v n A) : h.sub h1 := by
  obtain ⟨ds, bs, e1, e2, e3, e4, e5⟩ := hm; exact e4
theorem Made.num {h h1 : Hp} {v : AV} {n : Nat} {A : List Nat} (hm : Made h h1 v n A) : ∃ ds bs, NumAt h1 v ds bs ∧ digOk ds ∧ digVal ds = n ∧ ∀ b ∈ bs, (h.m.get b = none ∧ ∃ x, h1.m.get b = some x ∧ x.rw = true) ∨ b ∈ A := by
  obtain ⟨ds, bs, e1, e2, e3, e4, e5⟩ := hm
  obtain ⟨b, bs', rfl, hn⟩ := e1.num
  exact ⟨ds, bs', hn, e2, e3, fun b hb => e5 b (List.mem_cons_of_mem _ hb)⟩
theorem digVal_pow_le {ds : List Nat} (hd : digOk ds) (hne : ds ≠ []) : 4294967296 ^ (ds.length - 1) ≤ digVal ds := by
  have hl : ds.getLast hne ≠ 0 := hd.2 _ (List.getLast?_eq_some_getLast hne)
  have h1 : digVal ds = digVal ds.dropLast + 4294967296 ^ ds.dropLast.length * digVal [ds.getLast hne] := by
    rw [← digVal_append, List.dropLast_concat_getLast]
  simp only [digVal, Nat.mul_zero, Nat.add_zero, List.length_dropLast] at h1
  have h2 : 4294967296 ^ (ds.length - 1) * 1 ≤ 4294967296 ^ (ds.length - 1) * ds.getLast hne := Nat.mul_le_mul_left _ (by omega)
  omega
theorem len_of_lt {ds : List Nat} (hd : digOk ds) {k : Nat} (hv : digVal ds < 4294967296 ^ k) : ds.length ≤ k := by
  cases ds with
  | nil => simp
  | cons d r =>
    have h1 := digVal_pow_le hd (List.cons_ne_nil d r)
    rcases Nat.lt_or_ge k (d :: r).length with h | h
    · exfalso
      have : 4294967296 ^ k ≤ 4294967296 ^ ((d :: r).length - 1) := Nat.pow_le_pow_right (by omega) (by omega)
      omega
    · exact h
theorem strip_ok_eq {ds : List Nat} (h : digOk ds) : strip ds = ds := by
  have h1 := strip_take ds
  have h2 := strip_len ds
  rcases Nat.lt_or_ge (strip ds).length ds.length with h3 | h3
  · exfalso
    have h4 := strip_val ds
    have h5 := digVal_lt (strip_small h.1)
    have hne : ds ≠ [] := fun e => by subst e; simp at h3
    have h6 := digVal_pow_le h hne
    have : 4294967296 ^ (strip ds).length ≤ 4294967296 ^ (ds.length - 1) := Nat.pow_le_pow_right (by omega) (by omega)
    omega
  · rw [← h1, List.take_of_length_le h3]
theorem of_dig_run {hk : Hooks} (hn : ∀ a h, hk 108 a h = none) {h : Hp} (hf : h.fr) {sl : AV} {ds bs : List Nat} (hd : DigAt h sl ds bs) (hs : small ds) (hlen : ds.length < 9223372036854775808) :
    ExF Tryz.prog hk 108 [sl] h fun r' h1 => Made h h1 r' (digVal ds) bs := by
  rcases hd with ⟨rfl, rfl, hsl⟩ | ⟨rb, off, cap, ex, rfl, rfl, hg, hc⟩
  · exact of_nil_run hn hf hsl
  · obtain ⟨m, r', h1, q0, nb, rfl, q1, q2, q3⟩ := of_run hn hf (b := rb) (off := off) (cap := cap) (ex := ex) hg hc hlen
    refine ⟨m, _, h1, q0, ?_⟩
    have hne : nb ≠ rb := fun e => by
      obtain ⟨all, ro, hb, _⟩ := getCells_some hg
      rw [← e, hf _ q1] at hb; cases hb
    have hl := strip_len ds
    have hgt : getCells h1 rb off (strip ds).length = some (u32s (strip ds)) := by
      obtain ⟨all, ro, hb, hl2, hc2⟩ := getCells_some hg
      unfold getCells
      rw [q3, PT.get_set_ne _ _ (Ne.symm hne), hb]
      simp only
      rw [if_pos (by omega)]
      simp only [Option.some.injEq]
      rw [← strip_take ds]
      unfold u32s at hc2 ⊢
      rw [List.map_take, hc2, List.take_take, strip_take, Nat.min_eq_left hl]
    refine ⟨strip ds, [nb, rb], ⟨nb, 0, [.slice rb off (strip ds).length cap ex 1], false, _, [rb], rfl, rfl, by rw [q3, PT.get_set_same], rfl, .inr ⟨rb, off, cap, ex, rfl, rfl, hgt, by omega⟩⟩, strip_ok hs, strip_val ds, fun b x hb => ?_, fun b hb => ?_⟩
    · rw [q3, PT.get_set_ne]
      · exact hb
      · intro e; rw [e, hf _ q1] at hb; cases hb
    · simp only [List.mem_cons, List.not_mem_nil, or_false] at hb
      rcases hb with rfl | rfl
      · exact .inl ⟨hf _ q1, _, by rw [q3, PT.get_set_same], rfl⟩
      · exact .inr (by simp)
end Go.Vk
set_option linter.unusedSimpArgs false
set_option linter.unusedVariables false
set_option maxRecDepth 100000
set_option maxHeartbeats 4000000
namespace Go.Vk
open Go.Proofs (Tryz.prog)
theorem bs1 (id : Nat) (a : Int) : aBuildSlice Tryz.prog 171 id 1 [(0, .int .u32 a)] = some (.slice id 0 1 1 true 1, some (.row [.int .u32 a] false)) := by
  simp only [aBuildSlice, eSl]
  rw [iU32]
  simp only [zU32, iU32s]
  simp [repeatL, fillA, AV.cells]
theorem mk_u32c (id n : Nat) (hn : n ≤ most) : aMakeSlice Tryz.prog 171 id (.int .i64 0) (.int .i64 n) = some (.slice id 0 0 n true 1, some (.row (u32s (List.replicate n 0)) false)) := by
  have hm : most = 1099511627776 := rfl
  have hn' : n ≤ 1099511627776 := hn
  simp only [aMakeSlice, eSl]
  rw [iU32]
  simp only [zU32, iU32s, iU32b]
  rw [if_pos ⟨by omega, by omega, by rw [hm]; omega, by omega, by omega, rfl⟩]
  simp [repeatL_one, u32s]
theorem u32s_one (ds : List Nat) : (u32s ds).all AV.one = true := by simp [u32s, AV.one]
/-- Digits laid behind those that are there, where there is room. -/
theorem app_u32 {h : Hp} {id b len cap : Nat} {x : AV} {ds bs pre suf : List Nat} (hx : DigAt h x ds bs) (hd : ds ≠ []) (hb : h.m.get b = some (.row (u32s (pre ++ suf)) false)) (hp : pre.length = len) (hs : ds.length ≤ suf.length) (hc : len + ds.length ≤ cap) :
    aAppend Tryz.prog 171 171 id h (.slice b 0 len cap true 1) x = some (.slice b 0 (len + ds.length) cap true 1, ⟨h.m.set b (.row (u32s (pre ++ ds ++ suf.drop ds.length)) false), h.nx⟩) := by
  have hsrc : srcT Tryz.prog 171 = true := by simp [srcT, tSl]
  rcases hx with ⟨rfl, _⟩ | ⟨rb, off, xc, ex, _, rfl, hg, _⟩
  · exact absurd rfl hd
  have hl0 : ds.length ≠ 0 := fun e => hd (List.eq_nil_of_length_eq_zero e)
  unfold aAppend
  simp only [hsrc, Bool.not_true, Bool.false_eq_true, if_false, eSl]
  rw [iU32]
  simp only [zU32, iU32s, iU32b, lenA]
  rw [if_pos ⟨rfl, by omega⟩]
  simp only [srcCells, Nat.le_refl, if_true, sliceCells, Nat.mul_one, hg, u32s_one, appendTo, ne_eq, not_true_eq_false, if_false, if_neg hl0, if_pos hc]
  unfold putCells
  rw [hb]
  simp only [u32s_one, and_true]
  rw [if_pos (by simp only [u32s, List.length_map, List.length_append]; omega)]
  simp only [Option.map_some, Option.some.injEq, Prod.mk.injEq, true_and, Nat.zero_add]
  congr 3
  unfold u32s
  simp only [List.length_map, List.map_append, ← hp, List.map_drop]
  rw [List.take_left' (by simp), List.append_assoc, List.append_assoc]
  congr 2
  rw [show pre.length + ds.length = (List.map (fun d => AV.int IntKind.u32 (d : Nat)) pre).length + ds.length by simp, List.drop_append]
  simp
theorem blen_le {x : Nat} (h0 : 0 < x) (hx : x < 4294967296) : 1 ≤ blen x ∧ blen x ≤ 32 ∧ x < 2 ^ blen x := by
  unfold blen
  rw [if_neg (by omega)]
  have h1 := (Nat.log2_lt (by omega : x ≠ 0) (k := 32)).2 (by omega)
  exact ⟨by omega, by omega, Nat.lt_log2_self⟩
/-- A number, moved so that its highest digit is full, has as many digits. -/
theorem norm_lt {ds : List Nat} (hd : digOk ds) {n : Nat} (hn : ds.length = n + 1) : digVal ds * 2 ^ (32 - blen (dig ds n)) < 4294967296 ^ (n + 1) := by
  have h1 := digVal_take_succ ds n
  rw [List.take_of_length_le (by omega)] at h1
  have h2 := digVal_take_lt hd.1 n
  have h3 : dig ds n ≠ 0 := by
    refine hd.2 _ ?_
    rw [List.getLast?_eq_getElem?, hn]
    simp [dig, List.getD_eq_getElem?_getD, hn]
  obtain ⟨b1, b2, b3⟩ := blen_le (x := dig ds n) (by omega) (dig_lt hd.1 n)
  generalize dig ds n = d at *
  have h4 : digVal ds < 4294967296 ^ n * (d + 1) := by rw [Nat.mul_succ]; omega
  have h5 : 4294967296 ^ n * (d + 1) ≤ 4294967296 ^ n * 2 ^ blen d := Nat.mul_le_mul_left _ b3
  have h6 : digVal ds * 2 ^ (32 - blen d) < 4294967296 ^ n * 2 ^ blen d * 2 ^ (32 - blen d) := Nat.mul_lt_mul_of_pos_right (by omega) (Nat.two_pow_pos _)
  rw [Nat.mul_assoc, ← Nat.pow_add, show blen d + (32 - blen d) = 32 by omega] at h6
  rw [Nat.pow_succ]
  exact h6
/-- The window of one step. -/
theorem win_facts {fl : List Nat} (hs : small fl) {i N V P : Nat} (hi : i + N + 1 ≤ fl.length) (hd : digVal (fl.drop (i + 1)) < V) (hP : P = 4294967296 ^ N) (hV : V < P) :
    ∃ pre w suf, fl = pre ++ w ++ suf ∧ pre.length = i ∧ w.length = N + 1 ∧ small pre ∧ small w ∧ small suf ∧ digVal suf = 0 ∧ digVal w < 4294967296 * V := by
  have hsplit : fl = fl.take i ++ (fl.drop i).take (N + 1) ++ (fl.drop i).drop (N + 1) := by rw [List.append_assoc, List.take_append_drop, List.take_append_drop]
  have hwl : ((fl.drop i).take (N + 1)).length = N + 1 := by rw [List.length_take, List.length_drop]; omega
  have hdi : digVal (fl.drop i) = digVal ((fl.drop i).take (N + 1)) + 4294967296 ^ (N + 1) * digVal ((fl.drop i).drop (N + 1)) := by
    have := digVal_append ((fl.drop i).take (N + 1)) ((fl.drop i).drop (N + 1))
    rw [List.take_append_drop, hwl] at this
    exact this
  have hd1 : digVal (fl.drop i) = dig fl i + 4294967296 * digVal (fl.drop (i + 1)) := digVal_drop (by omega)
  have hdl := dig_lt hs i
  rw [Nat.pow_succ, ← hP] at hdi
  have hsuf0 : digVal ((fl.drop i).drop (N + 1)) = 0 := by
    rcases Nat.eq_zero_or_pos (digVal ((fl.drop i).drop (N + 1))) with h1 | h1
    · exact h1
    · exfalso
      have h2 : P * 4294967296 * 1 ≤ P * 4294967296 * digVal ((fl.drop i).drop (N + 1)) := Nat.mul_le_mul_left _ h1
      omega
  rw [hsuf0, Nat.mul_zero] at hdi
  exact ⟨_, _, _, hsplit, by rw [List.length_take]; omega, hwl, fun d hd => hs d (List.mem_of_mem_take hd), fun d hd => hs d (List.mem_of_mem_drop (List.mem_of_mem_take hd)), fun d hd => hs d (List.mem_of_mem_drop (List.mem_of_mem_drop hd)), hsuf0, by omega⟩
theorem win_val {pre w suf : List Nat} (h0 : digVal suf = 0) : digVal (pre ++ w ++ suf) = digVal pre + 4294967296 ^ pre.length * digVal w := by
  rw [List.append_assoc, digVal_append, digVal_append, h0, Nat.mul_zero, Nat.add_zero]
theorem win_drop {pre w suf : List Nat} (h0 : digVal suf = 0) : digVal ((pre ++ w ++ suf).drop pre.length) = digVal w := by
  rw [List.append_assoc, List.drop_left, digVal_append, h0, Nat.mul_zero, Nat.add_zero]
theorem win_step {W V q D P K i A v v' o : Nat} (hw : W = V * q + v') (hv : A = v + P * W) (h : A + V * (P * 4294967296 * o) = D) : v + P * v' + V * (P * (q + 4294967296 * o)) = D := by
  subst hw hv
  rw [← h]
  grind
theorem digitsA_isptr {h : Hp} {v sl : AV} (hd : digitsA h v = some sl) (hn : sl ≠ .nils) : ∃ b o, v = .ptr b o ∧ cellAt h b o = some sl := by
  cases v with
  | nilp => simp only [digitsA, Option.some.injEq] at hd; exact absurd hd.symm hn
  | ptr b o =>
    refine ⟨b, o, rfl, ?_⟩
    unfold digitsA at hd
    simp only at hd
    split at hd <;> first | (injection hd with hd; subst hd; assumption) | cases hd
  | _ => simp [digitsA] at hd
theorem fn_div : fnE Tryz.prog 136 = some ⟨(Go.Proofs.Tryz.f136.body).getD .skip, 119, [.tmp 4, .tmp 5, .tmp 6]⟩ := by kernel_rfl
end Go.Vk
set_option linter.unusedSimpArgs false
set_option linter.unusedVariables false
set_option maxRecDepth 100000
set_option maxHeartbeats 4000000
namespace Go.Vk
open Go.Proofs (Tryz.prog)
theorem DigAt.row {h : Hp} {b cap : Nat} {ex : Bool} {ds : List Nat} (hb : h.m.get b = some (.row (u32s ds) false)) (hc : ds.length ≤ cap) : DigAt h (.slice b 0 ds.length cap ex 1) ds [b] := by
  refine .inr ⟨b, 0, cap, ex, rfl, rfl, ?_, hc⟩
  unfold getCells
  rw [hb]
  simp only
  rw [if_pos (by simp [u32s])]
  simp only [List.drop_zero, Option.some.injEq]
  rw [List.take_of_length_le (by simp [u32s])]
theorem div_run {hk : Hooks} (G : GrowOK hk) (B : Base2 hk) (hLen : ∀ a h, hk 201 a h = none) (hup : ∀ a h, hk 205 a h = none) (hdown : ∀ a h, hk 207 a h = none) (hshort : ∀ a h, hk 124 a h = none)
    (hOf : ∀ a h, hk 75 a h = none) (hstep : ∀ a h, hk 206 a h = none) (hn : ∀ a h, hk 136 a h = none) {h : Hp} (hf : h.fr) {va vb : AV} {da db ba bb : List Nat} (ha : NumAt h va da ba) (hb : NumAt h vb db bb) (sa : digOk da) (sb : digOk db)
    (la : da.length < 5000000000) (lb : db.length < 5000000000) :
    ExF Tryz.prog hk 136 [va, vb] h fun r' h1 => if digVal db = 0 then r' = .tup [.nilp, .nilp, .bool false] ∧ h1.m = h.m else
      ∃ q r, r' = .tup [q, r, .bool true] ∧ Made h h1 q (digVal da / digVal db) [] ∧ Made h h1 r (digVal da % digVal db) ba := by
  have na := ha.num sa.1 la
  have nb := hb.num sb.1 lb
  obtain ⟨ra, ha1, ha2⟩ := ha
  obtain ⟨rb, hb1, hb2⟩ := hb
  refine ExF.body fn_div (hn _ _) (by simp) ?_
  simp only [Go.Proofs.Tryz.f136, Option.getD_some]
  have ca : ∀ m nx, callF Tryz.prog hk m 123 [va] ⟨h.m, nx⟩ = some (ra, ⟨h.m, nx⟩) := fun m nx => callF_hk (B.digits _ _ _ ha1)
  have cb : ∀ m nx, callF Tryz.prog hk m 123 [vb] ⟨h.m, nx⟩ = some (rb, ⟨h.m, nx⟩) := fun m nx => callF_hk (B.digits _ _ _ hb1)
  have cc : ∀ m nx, callF Tryz.prog hk m 92 [va, vb] ⟨h.m, nx⟩ = some (.int .i64 (cmpN (digVal da) (digVal db)), ⟨h.m, nx⟩) := fun m nx => callF_hk (B.cmp _ _ _ _ _ na nb)
  have hfn : ∀ n, (⟨h.m, h.nx + n⟩ : Hp).fr := fun n b hb => hf b (by simp only at hb; omega)
  (repeat refine Ex.assoc ?_); refine Ex.step (m := 0) (by simp (config := {decide := true}) only [RS, Nat.reduceAdd]; rfl) ?_
  (repeat refine Ex.assoc ?_); refine Ex.step (m := 0) (by simp (config := {decide := true}) only [RS, Nat.reduceAdd, fn_digits, cb]; rfl) ?_
  refine Ex.forget fun E hE => ?_; have k0 := hE 0; simp (config := {decide := true}) only [RS, Nat.reduceAdd] at k0; have k1 := hE 1; simp (config := {decide := true}) only [RS, Nat.reduceAdd] at k1; have k7 := hE 7; simp (config := {decide := true}) only [RS, Nat.reduceAdd] at k7; clear hE; have g0 := k0; clear k0; have g1 := k1; clear k1; have g7 := k7; clear k7
  refine Ex.cut (fun env h' => digVal db ≤ digVal da ∧ 2 ≤ db.length ∧ env.get 0 = some va ∧ env.get 1 = some vb ∧ env.get 7 = some rb ∧ h'.m = h.m ∧ h.nx ≤ h'.nx) (Ex.block ?_) ?_
  · (repeat refine Ex.assoc ?_); refine Ex.step (m := 0) (by simp (config := {decide := true}) only [RS, Nat.reduceAdd, g7, hb2.len]; rfl) ?_
    refine Ex.forget fun E hE => ?_; have k0 := hE 0; simp (config := {decide := true}) only [RS, Nat.reduceAdd, g0, g1, g7] at k0; have k1 := hE 1; simp (config := {decide := true}) only [RS, Nat.reduceAdd, g0, g1, g7] at k1; have k7 := hE 7; simp (config := {decide := true}) only [RS, Nat.reduceAdd, g0, g1, g7] at k7; have k16 := hE 16; simp (config := {decide := true}) only [RS, Nat.reduceAdd, g0, g1, g7] at k16; clear hE g0 g1 g7; have g0 := k0; clear k0; have g1 := k1; clear k1; have g7 := k7; clear k7; have g16 := k16; clear k16
    by_cases h0 : db.length = 0
    · have h0' : ((db.length : Int) == 0) = true := i_eq (by omega)
      refine Ex.cond_true (by simp (config := {decide := true}) only [RS, Nat.reduceAdd, g16, h0']) ?_
      (repeat refine Ex.assoc ?_); refine Ex.step (m := 0) (by simp (config := {decide := true}) only [RS, Nat.reduceAdd]; rfl) ?_
      refine Ex.ret ?_
      simp (config := {decide := true}) only [thenK, blockK, ite_true, ite_false, if_true, if_false]
      refine ⟨trivial, _, by simp (config := {decide := true}) only [RS, Nat.reduceAdd]; rfl, ?_⟩
      simp (config := {decide := true}) only [RS, Nat.reduceAdd]
      have : db = [] := List.eq_nil_of_length_eq_zero h0
      subst this
      simp [digVal]
    have h0' : ((db.length : Int) == 0) = false := i_ne (by omega)
    have hdb : digVal db ≠ 0 := fun e => h0 (by rw [digVal_zero sb e]; rfl)
    refine Ex.cond_false (by simp (config := {decide := true}) only [RS, Nat.reduceAdd, g16, h0']) ?_
    (repeat refine Ex.assoc ?_); refine Ex.step (m := 0) (by simp (config := {decide := true}) only [RS, Nat.reduceAdd, g0, g1, fn_cmp, cc]; rfl) ?_
    refine Ex.forget fun E hE => ?_; have k0 := hE 0; simp (config := {decide := true}) only [RS, Nat.reduceAdd, g0, g1, g7, g16] at k0; have k1 := hE 1; simp (config := {decide := true}) only [RS, Nat.reduceAdd, g0, g1, g7, g16] at k1; have k7 := hE 7; simp (config := {decide := true}) only [RS, Nat.reduceAdd, g0, g1, g7, g16] at k7; have k20 := hE 20; simp (config := {decide := true}) only [RS, Nat.reduceAdd, g0, g1, g7, g16] at k20; clear hE g0 g1 g7 g16; have g0 := k0; clear k0; have g1 := k1; clear k1; have g7 := k7; clear k7; have g20 := k20; clear k20
    by_cases hlt : digVal da < digVal db
    · have hc : cmpN (digVal da) (digVal db) < 0 := by unfold cmpN; rw [if_pos hlt]; omega
      refine Ex.cond_true (by simp (config := {decide := true}) only [RS, Nat.reduceAdd, g20, hc]) ?_
      obtain ⟨m1, v1, h1, q1, M1, G1⟩ := ((of_nil_run B.of (hfn 22) (.inl rfl)).grow G).lift
      have s1 : h.sub h1 := M1.hsub
      have f1 := G1.fr (hfn 22)
      obtain ⟨m2, v2, h2, q2, M2, G2⟩ := ((of_dig_run B.of f1 (ha2.sub s1) sa.1 (by omega)).grow G).lift
      have ca1 : ∀ m, callF Tryz.prog hk m 123 [va] h1 = some (ra, h1) := fun m => callF_hk (B.digits _ _ _ (digitsA_sub s1 ha1))
      have q1' := q1 (m1 + m2) (by omega)
      have q2' := q2 (m1 + m2) (by omega)
      (repeat refine Ex.assoc ?_); refine Ex.step (m := m1 + m2) (by simp (config := {decide := true}) only [RS, Nat.reduceAdd, g0, fn_of, q1', fn_digits, ca1, q2']; rfl) ?_
      refine Ex.ret ?_
      simp (config := {decide := true}) only [thenK, blockK, ite_true, ite_false, if_true, if_false]
      refine ⟨trivial, _, by simp (config := {decide := true}) only [RS, Nat.reduceAdd]; rfl, ?_⟩
      simp (config := {decide := true}) only [RS, Nat.reduceAdd]
      rw [if_neg hdb]
      refine ⟨v1, v2, rfl, ?_, ?_⟩
      · rw [Nat.div_eq_of_lt hlt]
        exact (M1.sub M2.hsub).base (fun _ _ h => h) (fun b hb => by cases hb)
      · rw [Nat.mod_eq_of_lt hlt]
        exact M2.base s1 (fun b hb => .inr hb)
    have hc : ¬ cmpN (digVal da) (digVal db) < 0 := by unfold cmpN; rw [if_neg hlt]; split <;> omega
    refine Ex.cond_false (by simp (config := {decide := true}) only [RS, Nat.reduceAdd, g20, hc]) ?_
    (repeat refine Ex.assoc ?_); refine Ex.step (m := 0) (by simp (config := {decide := true}) only [RS, Nat.reduceAdd, g7, hb2.len]; rfl) ?_
    refine Ex.forget fun E hE => ?_; have k0 := hE 0; simp (config := {decide := true}) only [RS, Nat.reduceAdd, g0, g1, g7, g20] at k0; have k1 := hE 1; simp (config := {decide := true}) only [RS, Nat.reduceAdd, g0, g1, g7, g20] at k1; have k7 := hE 7; simp (config := {decide := true}) only [RS, Nat.reduceAdd, g0, g1, g7, g20] at k7; have k29 := hE 29; simp (config := {decide := true}) only [RS, Nat.reduceAdd, g0, g1, g7, g20] at k29; clear hE g0 g1 g7 g20; have g0 := k0; clear k0; have g1 := k1; clear k1; have g7 := k7; clear k7; have g29 := k29; clear k29
    by_cases h1 : db.length = 1
    · have h1' : ((db.length : Int) == 1) = true := i_eq (by omega)
      refine Ex.cond_true (by simp (config := {decide := true}) only [RS, Nat.reduceAdd, g29, h1']) ?_
      obtain ⟨xb, xo, xc, xe, rfl, hga⟩ := hb2.slice (i := 0) (by omega)
      have hbd : db = [dig db 0] := by
        match db, h1 with
        | [d], _ => rfl
      have hbv : digVal db = dig db 0 := by rw [hbd]; simp [digVal, dig]
      have ly := dig_lt sb.1 0
      have e0 : (0 ≤ (0 : Int) ∧ (0 : Int) < (db.length : Int)) := by omega
      have hga0 : ∀ nx, getCells ⟨h.m, nx⟩ xb (xo + Int.toNat 0 * 1) 1 = some [.int .u32 (dig db 0 : Nat)] := fun nx => hga nx
      have y1 : IntKind.u64.wrap ((dig db 0 : Nat) : Int) = (dig db 0 : Nat) := by rw [wrap_u64] <;> omega
      obtain ⟨m1, v1, h1, q1, ⟨ob, out, rfl, p1, p2, p3, p4, p5, p6⟩, G1⟩ := ((short_run B.toBase hshort (hfn 31) (ha2 : DigAt ⟨h.m, h.nx + 31⟩ ra da ba) sa.1 (by omega) (y := dig db 0) (by omega) ly).grow G).lift
      have hbb : xb.blt (h.nx + 19) = true := by
        have := hb2.fresh hf (b := xb)
        have : Nat.ble (xb + 1) (h.nx + 19) = true := Nat.ble_eq_true_of_le (by
          have : xb < h.nx := by
            obtain ⟨all, ro, hx, _⟩ := getCells_some (hga0 0)
            rcases Nat.lt_or_ge xb h.nx with a | a
            · exact a
            · simp only at hx; rw [hf xb a] at hx; cases hx
          omega)
        exact this
      have q1' := q1 m1 (Nat.le_refl _)
      (repeat refine Ex.assoc ?_); refine Ex.step (m := m1) (by rw [drawR (B := [0, 1, 0, 4, 12, 28, 63, 127, 255, 255, 511, 2047]) (ord := [0, 1, 2, 3, 4, 5, 6, 7, 8, 9, 10, 11]) (by kernel_rfl) (by kernel_rfl) (by kernel_rfl)]; simp (config := {decide := true}) only [RS, Nat.reduceAdd, drawOps, drawStep, readOk, readsA, segsOk, blkOk, Bool.true_or, Bool.or_true, AV.beqL_refl, hbb, Bool.or_true, g0, g7, fn_digits, ca, tSl, tU32, tU64, hU32, sU32, aU32, e0, hga0, y1, fn_short, q1']; rfl) ?_
      refine Ex.forget fun E hE => ?_; have k8 := hE 8; simp (config := {decide := true}) only [RS, Nat.reduceAdd, g0, g1, g7, g29] at k8; have k9 := hE 9; simp (config := {decide := true}) only [RS, Nat.reduceAdd, g0, g1, g7, g29] at k9; clear hE g0 g1 g7 g29; have g8 := k8; clear k8; have g9 := k9; clear k9
      have f1 := G1.fr (hfn 31)
      have f1' : (⟨h1.m, h1.nx + 7⟩ : Hp).fr := fun b hb => f1 b (by simp only at hb; omega)
      have s1 : h.sub h1 := fun b x hx => by
        rw [p3, if_neg]
        · exact hx
        · intro e; rw [e, hf ob (by simp only at p1; omega)] at hx; cases hx
      have hob : h1.m.get ob = some (.row (u32s out) false) := by rw [p3, if_pos rfl]
      obtain ⟨m2, v2, h2, q2, M2, G2⟩ := ((of_dig_run B.of f1' (DigAt.row (h := ⟨h1.m, h1.nx + 7⟩) (cap := out.length) (ex := true) hob (Nat.le_refl _)) p5 (by omega)).grow G).lift
      have f2 := G2.fr f1'
      have hrem : digVal da % dig db 0 < 18446744073709551616 := by have := Nat.mod_lt (digVal da) (show 0 < dig db 0 by omega); omega
      obtain ⟨m3, v3, h3, q3, M3, G3⟩ := ((Of_run B.toBase hOf f2 hrem).grow G).lift
      have q2' := q2 (m2 + m3) (by omega)
      have q3' := q3 (m2 + m3) (by omega)
      rw [p4] at q2'
      (repeat refine Ex.assoc ?_); refine Ex.step (m := m2 + m3) (by simp (config := {decide := true}) only [RS, Nat.reduceAdd, g8, g9, fn_of, q2', fn_Of, q3']; rfl) ?_
      refine Ex.ret ?_
      simp (config := {decide := true}) only [thenK, blockK, ite_true, ite_false, if_true, if_false]
      refine ⟨trivial, _, by simp (config := {decide := true}) only [RS, Nat.reduceAdd]; rfl, ?_⟩
      simp (config := {decide := true}) only [RS, Nat.reduceAdd]
      rw [if_neg hdb]
      refine ⟨v2, v3, rfl, ?_, ?_⟩
      · rw [hbv, ← p6]
        refine (M2.sub M3.hsub).base s1 (fun b hb => .inl ?_)
        simp only [List.mem_singleton] at hb; subst hb
        refine ⟨hf _ (by simp only at p1; omega), _, M3.hsub _ _ (M2.hsub _ _ hob), rfl⟩
      · rw [hbv]
        exact M3.base (s1.trans M2.hsub) (fun b hb => by cases hb)
    · have h1' : ((db.length : Int) == 1) = false := i_ne (by omega)
      refine Ex.cond_false (by simp (config := {decide := true}) only [RS, Nat.reduceAdd, g29, h1']) (Ex.skip ?_)
      simp (config := {decide := true}) only [thenK, blockK, ite_true, ite_false, if_true, if_false]
      exact ⟨by omega, by omega, g0, g1, g7, by trivial, (by first | omega | (simp only [Nat.add_assoc]; omega) | (dsimp only; omega))⟩
  rintro env h' ⟨hge, hlb, g0, g1, g7, hm, hx⟩
  rcases h' with ⟨m', N0⟩
  dsimp only at hm hx
  subst hm
  have hne : db ≠ [] := fun e => by rw [e] at hlb; simp at hlb
  have hdb : digVal db ≠ 0 := fun e => hne (digVal_zero sb e)
  obtain ⟨n, hn1⟩ : ∃ n, db.length = n + 1 := ⟨db.length - 1, by omega⟩
  have hfN : ∀ k, N0 ≤ k → (⟨h.m, k⟩ : Hp).fr := fun k hk b hb => hf b (by simp only at hb; omega)
  -- how far it is moved
  obtain ⟨xb, xo, xc, xe, rfl, hga⟩ := hb2.slice (i := n) (by omega)
  have htop : dig db n ≠ 0 := by
    refine sb.2 _ ?_
    rw [List.getLast?_eq_getElem?, hn1]
    simp [dig, List.getD_eq_getElem?_getD, hn1]
  have ltop := dig_lt sb.1 n
  obtain ⟨bl1, bl2, bl3⟩ := blen_le (x := dig db n) (by omega) ltop
  have hnorm := norm_lt sb hn1
  obtain ⟨m1, v1, h1, q1, ⟨rfl, e1⟩, G1⟩ := ((len_run hLen (h := ⟨h.m, N0 + 10⟩) (x0 := dig db n) (by omega)).grow G).lift
  rcases h1 with ⟨m', N1⟩
  dsimp only at e1
  subst e1
  have hN1 : N0 + 10 ≤ N1 := G1.1
  obtain ⟨s, hs⟩ : ∃ s, s = 32 - blen (dig db n) := ⟨_, rfl⟩
  rw [← hs] at hnorm
  have y0 : IntKind.i64.wrap ((db.length : Int) - 1) = (n : Nat) := by rw [wrap_i64] <;> omega
  have e0 : (0 ≤ ((n : Nat) : Int) ∧ ((n : Nat) : Int) < (db.length : Int)) := by omega
  have y1 : IntKind.u64.wrap ((dig db n : Nat) : Int) = (dig db n : Nat) := by rw [wrap_u64] <;> omega
  have y2 : IntKind.i64.wrap (32 - ((blen (dig db n) : Nat) : Int)) = (s : Nat) := by rw [wrap_i64] <;> omega
  have q1' := q1 m1 (Nat.le_refl _)
  (repeat refine Ex.assoc ?_); refine Ex.step (m := m1) (by simp (config := {decide := true}) only [RS, Nat.reduceAdd, g7, aLen, tSl, tU32, tU64, hU32, sU32, aU32, y0, e0, Int.toNat_natCast, hga, y1, fn_len, q1', y2]; rfl) ?_
  refine Ex.forget fun E hE => ?_; have k0 := hE 0; simp (config := {decide := true}) only [RS, Nat.reduceAdd, g0, g1, g7] at k0; have k1 := hE 1; simp (config := {decide := true}) only [RS, Nat.reduceAdd, g0, g1, g7] at k1; have k10 := hE 10; simp (config := {decide := true}) only [RS, Nat.reduceAdd, g0, g1, g7] at k10; clear hE g0 g1 g7; have g0 := k0; clear k0; have g1 := k1; clear k1; have g10 := k10; clear k10
  have hs31 : s ≤ 31 := by omega
  -- the divisor moved
  obtain ⟨m2, v2, h2, q2, M2, G2⟩ := ((up_run B.toBase hup (hfN (N1 + 7) (by omega)) (⟨_, hb1, hb2⟩ : NumAt ⟨h.m, N1 + 7⟩ vb db bb) sb.1 (by omega) (k := s) (by omega)).grow G).lift
  obtain ⟨ds2, bs2, NA2, ok2, val2, sub2, new2⟩ := M2
  obtain ⟨b2, o2, cells2, ro2, sl2, bs2', rfl, rfl, hrow2, hcell2, hdig2⟩ := NA2
  have hp2 : 0 < 2 ^ s := Nat.two_pow_pos s
  have hl2 : ds2.length = n + 1 := by
    have h1 := len_of_lt ok2 (k := n + 1) (by rw [val2]; exact hnorm)
    have h3 := digVal_pow_le sb hne
    rw [hn1, Nat.add_sub_cancel] at h3
    have h4 := digVal_lt ok2.1
    have h5 : digVal db * 1 ≤ digVal db * 2 ^ s := Nat.mul_le_mul_left _ hp2
    rcases Nat.lt_or_ge ds2.length (n + 1) with h6 | h6
    · exfalso
      have : 4294967296 ^ ds2.length ≤ 4294967296 ^ n := Nat.pow_le_pow_right (by omega) (by omega)
      omega
    · omega
  have hg2 : ∀ nx, getCells ⟨h2.m, nx⟩ b2 (o2 + 0) 1 = some [sl2] := fun nx => cellAt_get (h := ⟨h2.m, nx⟩) (by unfold cellAt; simp only [hrow2]; exact hcell2)
  have q2' := q2 m2 (Nat.le_refl _)
  have h01 : 0 < 1 := Nat.one_pos
  have f2 := G2.fr (hfN (N1 + 7) (by omega))
  have hg2' := hg2 h2.nx
  (repeat refine Ex.assoc ?_); refine Ex.step (m := m2) (by simp (config := {decide := true}) only [RS, Nat.reduceAdd, g1, g10, fn_up, q2', fNat0, sSl, aSl, hSl, hg2', h01, if_pos]; rfl) ?_
  refine Ex.forget fun E hE => ?_; have k0 := hE 0; simp (config := {decide := true}) only [RS, Nat.reduceAdd, g0, g1, g10] at k0; have k7 := hE 7; simp (config := {decide := true}) only [RS, Nat.reduceAdd, g0, g1, g10] at k7; have k10 := hE 10; simp (config := {decide := true}) only [RS, Nat.reduceAdd, g0, g1, g10] at k10; clear hE g0 g1 g10; have g0 := k0; clear k0; have g7 := k7; clear k7; have g10 := k10; clear k10
  have hdig2s : ∃ rb off cap ex, bs2' = [rb] ∧ sl2 = .slice rb off ds2.length cap ex 1 ∧ getCells h2 rb off ds2.length = some (u32s ds2) ∧ ds2.length ≤ cap := by
    rcases hdig2 with ⟨rfl, _⟩ | hd
    · simp at hl2
    · exact hd
  obtain ⟨rb2, off2, cap2, ex2, rfl, rfl, hgc2, hcap2⟩ := hdig2s
  -- the dividend
  have hda0 : da ≠ [] := fun e => by subst e; simp [digVal] at hge; omega
  have hra : ∃ rb off cap ex, ba = [rb] ∧ ra = .slice rb off da.length cap ex 1 ∧ getCells h rb off da.length = some (u32s da) ∧ da.length ≤ cap := by
    rcases ha2 with ⟨e, _⟩ | hd
    · exact absurd e hda0
    · exact hd
  obtain ⟨ra0, rao, rac, rae, hba, rfl, _, _⟩ := hra
  have hva := digitsA_isptr ha1 (fun e => by cases e)
  obtain ⟨ab, ao, rfl, hca⟩ := hva
  have s2 : h.sub h2 := sub2
  have hcs : ∀ {H : Hp}, h.sub H → ∀ nx, getCells ⟨H.m, nx⟩ ab (ao + 0) 1 = some [.slice ra0 rao da.length rac rae 1] := fun {H} hs nx => cellAt_get (h := ⟨H.m, nx⟩) (by
    unfold cellAt at hca ⊢
    split at hca
    · rename_i cs ro hb; simp only [hs _ _ hb]; exact hca
    · cases hca)
  have hablt : ab < h.nx := by
    unfold cellAt at hca
    split at hca
    · rename_i cs ro hb
      rcases Nat.lt_or_ge ab h.nx with a | a
      · exact a
      · rw [hf ab a] at hb; cases hb
    · cases hca
  have f2' : ∀ k, h2.nx ≤ k → (⟨h2.m, k⟩ : Hp).fr := fun k hk b hb => f2 b (by simp only at hb; omega)
  obtain ⟨m3, v3, h3, q3, M3, G3⟩ := ((up_run B.toBase hup (f2' (h2.nx + 15) (by omega)) (NumAt.sub (h2 := ⟨h2.m, h2.nx + 15⟩) s2 (⟨_, ha1, ha2⟩ : NumAt h (.ptr ab ao) da ba)) sa.1 (by omega) (k := s) (by omega)).grow G).lift
  obtain ⟨ds3, bs3, NA3, ok3, val3, sub3, new3⟩ := M3
  obtain ⟨b3, o3, cells3, ro3, sl3, bs3', rfl, rfl, hrow3, hcell3, hdig3⟩ := NA3
  have f3 := G3.fr (f2' (h2.nx + 15) (by omega))
  have hN3 : h2.nx + 15 ≤ h3.nx := G3.1
  have s3 : h2.sub h3 := sub3
  have hnone6 : h3.m.get (h2.nx + 6) = none := by
    cases hg : h3.m.get (h2.nx + 6) with
    | none => rfl
    | some x =>
      rcases G3.2 (h2.nx + 6) (by rw [hg]; exact fun h => by cases h) with h4 | h4
      · exact absurd (f2 _ (by omega)) h4
      · simp only at h4; omega
  have hb3 : h2.nx + 15 ≤ b3 := by
    rcases G3.2 b3 (by rw [hrow3]; exact fun h => by cases h) with h4 | h4
    · rcases new3 b3 (List.mem_cons_self ..) with ⟨h5, _⟩ | h5
      · exact absurd h5 h4
      · cases h5
    · exact h4.1
  have hl3 : da.length ≤ ds3.length ∧ ds3.length ≤ da.length + 1 := by
    have h3 := digVal_pow_le sa hda0
    have h5 : digVal da * 1 ≤ digVal da * 2 ^ s := Nat.mul_le_mul_left _ hp2
    have h4 := digVal_lt ok3.1
    have hlda : da.length ≠ 0 := fun e => hda0 (List.eq_nil_of_length_eq_zero e)
    constructor
    · rcases Nat.lt_or_ge ds3.length da.length with h6 | h6
      · exfalso
        have : 4294967296 ^ ds3.length ≤ 4294967296 ^ (da.length - 1) := Nat.pow_le_pow_right (by omega) (by omega)
        omega
      · exact h6
    · refine len_of_lt ok3 ?_
      rw [val3, Nat.pow_succ]
      have h6 := digVal_lt sa.1
      have h7 : 2 ^ s ≤ 2 ^ 32 := Nat.pow_le_pow_right (by omega) (by omega)
      have h8 : digVal da * 2 ^ s ≤ digVal da * 4294967296 := Nat.mul_le_mul_left _ h7
      have h9 : digVal da * 4294967296 < 4294967296 ^ da.length * 4294967296 := Nat.mul_lt_mul_of_pos_right h6 (by omega)
      omega
  have hds3 : ds3 ≠ [] := fun e => by rw [e] at hl3; exact hda0 (List.eq_nil_of_length_eq_zero (by simpa using hl3.1))
  obtain ⟨LA, hLA⟩ : ∃ L, L = da.length := ⟨_, rfl⟩
  have hraL : ∀ H, aLen Tryz.prog 171 H (.slice ra0 rao da.length rac rae 1) = some (.int .i64 (LA : Nat)) := fun H => by rw [hLA]; exact ha2.len H
  have z1 : IntKind.i64.wrap ((LA : Int) + 2) = ((LA + 2 : Nat) : Int) := by rw [wrap_i64] <;> omega
  have hmk := mk_u32c (h2.nx + 6) (LA + 2) (by have hm : most = 1099511627776 := rfl; omega)
  obtain ⟨AB, hAB⟩ : ∃ AB, AB = h2.nx + 6 := ⟨_, rfl⟩
  have k1 := hcs (s2.trans s3) h3.nx
  have k2 := hcs (H := h2) s2 (h2.nx + 15)
  have k3 : getCells ⟨h3.m.set (h2.nx + 6) (.row (u32s (List.replicate (LA + 2) 0)) false), h3.nx⟩ b3 (o3 + 0) 1 = some [sl3] := cellAt_get (h := ⟨_, h3.nx⟩) (by
    unfold cellAt
    simp only [PT.get_set, if_neg (show b3 ≠ h2.nx + 6 by omega), hrow3]
    exact hcell3)
  have k4 : ab.blt h2.nx = true := by
    have : Nat.ble (ab + 1) h2.nx = true := Nat.ble_eq_true_of_le (by have := G2.1; simp only at this; omega)
    exact this
  have k5 : (h2.nx + 15).ble b3 = true := Nat.ble_eq_true_of_le hb3
  have k6 : anc [0, 1, 3, 7, 15, 31, 63, 0, 0, 384, 896, 1920, 3968, 8191, 16383] 9 12 = true := by decide
  have hd3 : DigAt ⟨h3.m.set (h2.nx + 6) (.row (u32s (List.replicate (LA + 2) 0)) false), h3.nx⟩ sl3 ds3 bs3' := DigAt.ext hdig3 fun b hb => by
    simp only [PT.get_set]
    rw [if_neg]
    intro e
    obtain ⟨rb, off, cap, ex, rfl, rfl, hg, _⟩ | ⟨rfl, _⟩ := hdig3.symm
    · simp only [List.mem_singleton] at hb
      obtain ⟨all, ro, hx, _⟩ := getCells_some hg
      rw [← hb, e, hnone6] at hx; cases hx
    · exact hds3 rfl
  have k7 := app_u32 (h := ⟨h3.m.set (h2.nx + 6) (.row (u32s (List.replicate (LA + 2) 0)) false), h3.nx⟩) (id := h2.nx + 13) (b := h2.nx + 6) (len := 0) (cap := LA + 2) (pre := []) (suf := List.replicate (LA + 2) 0) hd3 hds3 (by simp only [PT.get_set, if_true]; rfl) rfl (by simp; omega) (by omega)
  have q3' := q3 m3 (Nat.le_refl _)
  (repeat refine Ex.assoc ?_); refine Ex.step (m := m3) (by rw [drawR (B := [0, 1, 3, 7, 15, 31, 63, 0, 0, 384, 896, 1920, 3968, 8191, 16383]) (ord := [7, 8, 9, 0, 1, 2, 3, 4, 5, 6, 10, 11, 12, 13, 14]) (by kernel_rfl) (by kernel_rfl) (by kernel_rfl)]; simp (config := {decide := true}) only [RS, Nat.reduceAdd, drawOps, drawStep, readOk, readsA, segsOk, blkOk, Bool.true_or, Bool.or_true, AV.beqL_refl, k4, k5, k6, g0, g10, fNat0, sSl, aSl, hSl, h01, if_pos, fn_up, q3', k1, k2, hraL, z1, hmk, fresh, hnone6, k3, k7]; rfl) ?_
  refine Ex.forget fun E hE => ?_; have k0 := hE 0; simp (config := {decide := true}) only [RS, Nat.reduceAdd, g0, g7, g10] at k0; have k7 := hE 7; simp (config := {decide := true}) only [RS, Nat.reduceAdd, g0, g7, g10] at k7; have k10 := hE 10; simp (config := {decide := true}) only [RS, Nat.reduceAdd, g0, g7, g10] at k10; have k11 := hE 11; simp (config := {decide := true}) only [RS, Nat.reduceAdd, g0, g7, g10] at k11; clear hE g0 g7 g10; have g0 := k0; clear k0; have g7 := k7; clear k7; have g10 := k10; clear k10; have g11 := k11; clear k11
  rw [Nat.zero_add, ← hAB] at g11
  obtain ⟨fl0, hfl0⟩ : ∃ l : List Nat, l = ds3 ++ List.drop ds3.length (List.replicate (LA + 2) 0) := ⟨_, rfl⟩
  have fl0l : fl0.length = LA + 2 := by rw [hfl0]; simp; omega
  have fl0s : small fl0 := fun d hd => by
    rw [hfl0] at hd
    rcases List.mem_append.1 hd with h0 | h0
    · exact ok3.1 d h0
    · have := (List.mem_replicate.1 (List.mem_of_mem_drop h0)).2; omega
  have fl0v : digVal fl0 = digVal da * 2 ^ s := by
    rw [hfl0, digVal_append, List.drop_replicate, digVal_rep, val3]; simp
  have fl0z : ∀ j, ds3.length ≤ j → dig fl0 j = 0 := fun j hj => by
    rw [hfl0]
    unfold dig
    rw [List.getD_eq_getElem?_getD, List.getElem?_append_right hj, List.drop_replicate, List.getElem?_replicate]
    split <;> rfl
  obtain ⟨M4, hM4⟩ : ∃ M, M = (h3.m.set (h2.nx + 6) (.row (u32s (List.replicate (LA + 2) 0)) false)).set (h2.nx + 6) (.row (u32s (ds3 ++ List.drop ds3.length (List.replicate (LA + 2) 0))) false) := ⟨_, rfl⟩
  rw [← hM4]
  rw [← hAB] at hnone6
  have hM4g : ∀ b, M4.get b = if b = AB then some (.row (u32s fl0) false) else h3.m.get b := fun b => by
    rw [hM4, hfl0, hAB]
    simp only [PT.get_set]
    split <;> rfl
  have s4 : h3.sub ⟨M4, h3.nx⟩ := fun b x hx => by
    show M4.get b = _
    rw [hM4g, if_neg]
    · exact hx
    · intro e; rw [e, hnone6] at hx; cases hx
  have f4 : (⟨M4, h3.nx⟩ : Hp).fr := fun b hb => by
    show M4.get b = _
    rw [hM4g, if_neg (by simp only at hb; omega)]
    exact f3 b hb
  have hABl : M4.get AB = some (.row (u32s fl0) false) := by rw [hM4g, if_pos rfl]
  clear hM4g hM4 k1 k2 k3 k4 k5 k6 k7 hd3 hmk
  have ltAB : ∀ {H : Hp} {x : Blk}, H.fr → H.m.get AB = some x → AB < H.nx := fun {H x} hf hg => by
    rcases Nat.lt_or_ge AB H.nx with a | a
    · exact a
    · rw [hf AB a] at hg; cases hg
  have e0L : da.length = LA := hLA.symm
  -- noughts behind
  refine Ex.cut (fun env h' => h3.sub h' ∧ h'.fr ∧ h'.m.get AB = some (.row (u32s fl0) false) ∧ env.get 7 = some (.slice rb2 off2 ds2.length cap2 ex2 1) ∧ env.get 10 = some (.int .i64 s) ∧ env.get 11 = some (.slice AB 0 (LA + 1) (LA + 2) true 1)) (Ex.block ?_) ?_
  · refine Ex.loop (fun k env h' => ∃ L : Nat, k = LA + 1 - L ∧ ds3.length ≤ L ∧ L ≤ LA + 1 ∧ h3.sub h' ∧ h'.fr ∧ h'.m.get AB = some (.row (u32s fl0) false) ∧ env.get 0 = some (.ptr ab ao) ∧ env.get 7 = some (.slice rb2 off2 ds2.length cap2 ex2 1) ∧ env.get 10 = some (.int .i64 s) ∧ env.get 11 = some (.slice AB 0 L (LA + 2) true 1)) ?_ (LA + 1 - ds3.length) _ _ ?_
    · clear g0 g7 g10 g11
      rintro k env h' ⟨L, rfl, j1, j2, j3, j4, j5, g0, g7, g10, g11⟩
      have k1 := hcs ((s2.trans s3).trans j3) (h'.nx + 8)
      (repeat refine Ex.assoc ?_); refine Ex.step (m := 0) (by simp (config := {decide := true}) only [RS, Nat.reduceAdd, g0, g11, tSl, aLen, fNat0, sSl, aSl, hSl, h01, if_pos, k1, e0L]; rfl) ?_
      refine Ex.forget fun E hE => ?_; have k0 := hE 0; simp (config := {decide := true}) only [RS, Nat.reduceAdd, g0, g7, g10, g11] at k0; have k7 := hE 7; simp (config := {decide := true}) only [RS, Nat.reduceAdd, g0, g7, g10, g11] at k7; have k10 := hE 10; simp (config := {decide := true}) only [RS, Nat.reduceAdd, g0, g7, g10, g11] at k10; have k11 := hE 11; simp (config := {decide := true}) only [RS, Nat.reduceAdd, g0, g7, g10, g11] at k11; have k83 := hE 83; simp (config := {decide := true}) only [RS, Nat.reduceAdd, g0, g7, g10, g11] at k83; clear hE g0 g7 g10 g11; have g0 := k0; clear k0; have g7 := k7; clear k7; have g10 := k10; clear k10; have g11 := k11; clear k11; have g83 := k83; clear k83
      by_cases hL : L ≤ LA
      · have hL' : ((L : Nat) : Int) ≤ ((LA : Nat) : Int) := by omega
        refine Ex.ifT (by simp (config := {decide := true}) only [RS, Nat.reduceAdd, g83, hL']) (Ex.skipS ?_)
        refine Ex.block ?_
        have hnn : h'.m.get (h'.nx + 9) = none := j4 _ (by omega)
        have hAl := ltAB j4 j5
        have hx1 : DigAt ⟨h'.m.set (h'.nx + 9) (.row [.int .u32 0] false), h'.nx + 12⟩ (.slice (h'.nx + 9) 0 1 1 true 1) [0] [h'.nx + 9] := DigAt.row (ds := [0]) (cap := 1) (by simp only [PT.get_set, if_true]; rfl) (by simp)
        have hrow : (⟨h'.m.set (h'.nx + 9) (.row [.int .u32 0] false), h'.nx + 12⟩ : Hp).m.get AB = some (.row (u32s (fl0.take L ++ fl0.drop L)) false) := by
          simp only [PT.get_set]
          rw [if_neg (by omega), List.take_append_drop]; exact j5
        have k7 := app_u32 (id := h'.nx + 10) (len := L) (cap := LA + 2) hx1 (by simp) hrow (by rw [List.length_take]; omega) (by rw [List.length_drop]; simp only [List.length_singleton]; omega) (by simp only [List.length_singleton]; omega)
        simp only [List.length_singleton] at k7
        refine Ex.last (m := 0) (by simp (config := {decide := true}) only [RS, Nat.reduceAdd, g11, bs1, fresh, hnn, k7]; rfl) ?_
        simp (config := {decide := true}) only [thenK, blockK, ite_true, ite_false, if_true, if_false]
        have hz : fl0.take L ++ [0] ++ List.drop 1 (fl0.drop L) = fl0 := by
          have h1 := fl0z L j1
          have h2 : fl0.drop L = 0 :: fl0.drop (L + 1) := by
            rw [List.drop_eq_getElem_cons (by omega)]
            congr 1
            simpa [dig, List.getD_eq_getElem?_getD, show L < fl0.length by omega] using h1
          rw [List.drop_drop, List.append_assoc, List.singleton_append, ← h2, List.take_append_drop]
        rw [hz]
        refine ⟨LA + 1 - (L + 1), by omega, L + 1, rfl, by omega, by omega, fun b x hx => ?_, fun b hb => ?_, ?_, by simp (config := {decide := true}) only [RS, Nat.reduceAdd, g0], by simp (config := {decide := true}) only [RS, Nat.reduceAdd, g7], by simp (config := {decide := true}) only [RS, Nat.reduceAdd, g10], by simp (config := {decide := true}) only [RS, Nat.reduceAdd]⟩
        · simp only [PT.get_set]
          have h1 : b ≠ AB := fun e => by rw [e, hnone6] at hx; cases hx
          have h2 := j3 b x hx
          have h3 : b ≠ h'.nx + 9 := fun e => by rw [e, hnn] at h2; cases h2
          rw [if_neg h1, if_neg h3]; exact h2
        · simp only at hb
          simp only [PT.get_set]
          rw [if_neg (by omega), if_neg (by omega)]
          exact j4 b (by omega)
        · simp only [PT.get_set, if_true]
      · have hL' : ¬ ((L : Nat) : Int) ≤ ((LA : Nat) : Int) := by omega
        refine Ex.ifF (by simp (config := {decide := true}) only [RS, Nat.reduceAdd, g83, hL']) (Ex.exitS ?_)
        simp (config := {decide := true}) only [thenK, blockK, ite_true, ite_false, if_true, if_false]
        have : L = LA + 1 := by omega
        subst this
        exact ⟨j3, fun b hb => j4 b (by simp only at hb; omega), j5, g7, g10, g11⟩
    · exact ⟨ds3.length, rfl, Nat.le_refl _, by omega, s4, f4, hABl, g0, g7, g10, g11⟩
  clear g0 g7 g10 g11
  rintro env h' ⟨j3, j4, j5, g7, g10, g11⟩
  obtain ⟨K, hK⟩ : ∃ K, K = LA + 1 - (n + 1) := ⟨_, rfl⟩
  have hnLA : n + 1 ≤ LA := by
    rw [hLA, ← hn1]
    have h1 := digVal_pow_le sb hne
    have h2 := digVal_lt sa.1
    rcases Nat.lt_or_ge da.length db.length with h3 | h3
    · exfalso
      have : 4294967296 ^ da.length ≤ 4294967296 ^ (db.length - 1) := Nat.pow_le_pow_right (by omega) (by omega)
      omega
    · exact h3
  have z2 : IntKind.i64.wrap (((LA + 1 : Nat) : Int) - ((ds2.length : Nat) : Int)) = ((K : Nat) : Int) := by rw [hl2, wrap_i64] <;> omega
  have hmk : ∀ id, _ := fun id => mk_u32 id K (by have hm : most = 1099511627776 := rfl; omega)
  have hnq : h'.m.get (h'.nx + 5) = none := j4 _ (by omega)
  (repeat refine Ex.assoc ?_); refine Ex.step (m := 0) (by simp (config := {decide := true}) only [RS, Nat.reduceAdd, g7, g11, tSl, aLen, z2, hmk, fresh, hnq]; rfl) ?_
  refine Ex.forget fun E hE => ?_; have k7 := hE 7; simp (config := {decide := true}) only [RS, Nat.reduceAdd, g7, g10, g11] at k7; have k10 := hE 10; simp (config := {decide := true}) only [RS, Nat.reduceAdd, g7, g10, g11] at k10; have k11 := hE 11; simp (config := {decide := true}) only [RS, Nat.reduceAdd, g7, g10, g11] at k11; have k12 := hE 12; simp (config := {decide := true}) only [RS, Nat.reduceAdd, g7, g10, g11] at k12; clear hE g7 g10 g11; have g7 := k7; clear k7; have g10 := k10; clear k10; have g11 := k11; clear k11; have g12 := k12; clear k12
  have z3 : IntKind.i64.wrap (((K : Nat) : Int) - 1) = ((K : Nat) : Int) - 1 := by rw [wrap_i64] <;> omega
  (repeat refine Ex.assoc ?_); refine Ex.step (m := 0) (by simp (config := {decide := true}) only [RS, Nat.reduceAdd, g12, tSl, aLen, z3]; rfl) ?_
  refine Ex.forget fun E hE => ?_; have k7 := hE 7; simp (config := {decide := true}) only [RS, Nat.reduceAdd, g7, g10, g11, g12] at k7; have k10 := hE 10; simp (config := {decide := true}) only [RS, Nat.reduceAdd, g7, g10, g11, g12] at k10; have k11 := hE 11; simp (config := {decide := true}) only [RS, Nat.reduceAdd, g7, g10, g11, g12] at k11; have k12 := hE 12; simp (config := {decide := true}) only [RS, Nat.reduceAdd, g7, g10, g11, g12] at k12; have k13 := hE 13; simp (config := {decide := true}) only [RS, Nat.reduceAdd, g7, g10, g11, g12] at k13; clear hE g7 g10 g11 g12; have g7 := k7; clear k7; have g10 := k10; clear k10; have g11 := k11; clear k11; have g12 := k12; clear k12; have g13 := k13; clear k13
  obtain ⟨QB, hQB⟩ : ∃ Q, Q = h'.nx + 5 := ⟨_, rfl⟩
  rw [← hQB] at g12 hnq ⊢
  have hAl := ltAB j4 j5
  have hABQ : AB ≠ QB := by omega
  have hQ3 : h3.m.get QB = none := by
    cases hg : h3.m.get QB with
    | none => rfl
    | some x => rw [j3 _ _ hg] at hnq; cases hnq
  obtain ⟨V, hV⟩ : ∃ V, V = digVal ds2 := ⟨_, rfl⟩
  have hVp : 0 < V := by rw [hV, val2]; exact Nat.mul_pos (by omega) hp2
  have hVlt : V < 4294967296 ^ (n + 1) := by rw [hV, val2]; exact hnorm
  have htop2 : dig ds2 (n + 1 - 1) ≠ 0 := by
    rw [Nat.add_sub_cancel]
    refine ok2.2 _ ?_
    rw [List.getLast?_eq_getElem?, hl2]
    simp [dig, List.getD_eq_getElem?_getD, hl2]
  have hg2r : ∀ {H : Hp}, h3.sub H → getCells H rb2 off2 ds2.length = some (u32s ds2) := fun {H} hs => by
    obtain ⟨all, ro, hx, _⟩ := getCells_some hgc2
    unfold getCells at hgc2 ⊢
    rw [hs _ _ (s3 _ _ hx)]
    rw [hx] at hgc2
    exact hgc2
  have hrbAB : AB ≠ rb2 := fun e => by
    obtain ⟨all, ro, hx, _⟩ := getCells_some (hg2r (H := h3) (fun _ _ h => h))
    rw [← e, hnone6] at hx; cases hx
  have fl0d : digVal (fl0.drop K) < V := by
    have t1 := digVal_append (fl0.take K) (fl0.drop K)
    rw [List.take_append_drop, fl0v, List.length_take, Nat.min_eq_left (by omega)] at t1
    have h1 := digVal_lt sa.1
    have h2 := digVal_pow_le sb hne
    rw [hn1, Nat.add_sub_cancel] at h2
    rcases Nat.lt_or_ge (digVal (fl0.drop K)) V with h3 | h3
    · exact h3
    · exfalso
      have h4 : 4294967296 ^ K * (4294967296 ^ n * 2 ^ s) ≤ 4294967296 ^ K * digVal (fl0.drop K) := Nat.mul_le_mul_left _ (by rw [hV, val2] at h3; exact Nat.le_trans (Nat.mul_le_mul_right _ h2) h3)
      rw [← Nat.mul_assoc, ← Nat.pow_add, show K + n = da.length by omega] at h4
      have h5 : digVal da * 2 ^ s < 4294967296 ^ da.length * 2 ^ s := Nat.mul_lt_mul_of_pos_right h1 hp2
      omega
  -- digit by digit
  refine Ex.cut (fun env h' => ∃ fl out : List Nat, fl.length = LA + 2 ∧ small fl ∧ out.length = K ∧ small out ∧ digVal fl < V ∧ digVal fl + V * digVal out = digVal da * 2 ^ s ∧ h3.sub h' ∧ h'.fr ∧ h'.m.get AB = some (.row (u32s fl) false) ∧ h'.m.get QB = some (.row (u32s out) false) ∧
    env.get 10 = some (.int .i64 s) ∧ env.get 11 = some (.slice AB 0 (LA + 1) (LA + 2) true 1) ∧ env.get 12 = some (.slice QB 0 K K true 1)) (Ex.block ?_) ?_
  · refine Ex.loop (fun k env h' => ∃ fl out : List Nat, k ≤ K ∧ fl.length = LA + 2 ∧ small fl ∧ out.length = K ∧ small out ∧ digVal (fl.drop k) < V ∧ digVal fl + V * (4294967296 ^ k * digVal (out.drop k)) = digVal da * 2 ^ s ∧ h3.sub h' ∧ h'.fr ∧ h'.m.get AB = some (.row (u32s fl) false) ∧ h'.m.get QB = some (.row (u32s out) false) ∧
      env.get 7 = some (.slice rb2 off2 ds2.length cap2 ex2 1) ∧ env.get 10 = some (.int .i64 s) ∧ env.get 11 = some (.slice AB 0 (LA + 1) (LA + 2) true 1) ∧ env.get 12 = some (.slice QB 0 K K true 1) ∧ env.get 13 = some (.int .i64 ((k : Int) - 1))) ?_ K _ _ ?_
    · clear g7 g10 g11 g12 g13 j3 j4 j5 hnq hAl hmk
      rintro k env h' ⟨fl, out, i1, i2, i3, i4, i5, i6, i7, j3, j4, j5, j6, g7, g10, g11, g12, g13⟩
      cases k with
      | zero =>
        (repeat refine Ex.assoc ?_); refine Ex.step (m := 0) (by simp (config := {decide := true}) only [RS, Nat.reduceAdd, g13, Int.natCast_zero]; rfl) ?_
        refine Ex.ifF (by simp (config := {decide := true}) only [RS, Nat.reduceAdd]) (Ex.exitS ?_)
        simp (config := {decide := true}) only [thenK, blockK, ite_true, ite_false, if_true, if_false]
        refine ⟨fl, out, i2, i3, i4, i5, by simpa using i6, ?_, j3, fun b hb => j4 b (by simp only at hb; omega), j5, j6, by simp (config := {decide := true}) only [RS, Nat.reduceAdd, g10], by simp (config := {decide := true}) only [RS, Nat.reduceAdd, g11], by simp (config := {decide := true}) only [RS, Nat.reduceAdd, g12]⟩
        simpa using i7
      | succ i =>
        have e1 : (((i + 1 : Nat) : Int) - 1) = (i : Nat) := by omega
        have e2 : ((i : Nat) : Int) ≥ 0 := by omega
        rw [e1] at g13
        (repeat refine Ex.assoc ?_); refine Ex.step (m := 0) (by simp (config := {decide := true}) only [RS, Nat.reduceAdd, g13, e2]; rfl) ?_
        refine Ex.forget fun E hE => ?_; have k7 := hE 7; simp (config := {decide := true}) only [RS, Nat.reduceAdd, g7, g10, g11, g12, g13] at k7; have k10 := hE 10; simp (config := {decide := true}) only [RS, Nat.reduceAdd, g7, g10, g11, g12, g13] at k10; have k11 := hE 11; simp (config := {decide := true}) only [RS, Nat.reduceAdd, g7, g10, g11, g12, g13] at k11; have k12 := hE 12; simp (config := {decide := true}) only [RS, Nat.reduceAdd, g7, g10, g11, g12, g13] at k12; have k13 := hE 13; simp (config := {decide := true}) only [RS, Nat.reduceAdd, g7, g10, g11, g12, g13] at k13; have k97 := hE 97; simp (config := {decide := true}) only [RS, Nat.reduceAdd, g7, g10, g11, g12, g13] at k97; clear hE g7 g10 g11 g12 g13; have g7 := k7; clear k7; have g10 := k10; clear k10; have g11 := k11; clear k11; have g12 := k12; clear k12; have g13 := k13; clear k13; have g97 := k97; clear k97
        refine Ex.ifT (by simp (config := {decide := true}) only [RS, Nat.reduceAdd, g97]) (Ex.skipS ?_)
        refine Ex.seq (Ex.block ?_)
        -- the window
        obtain ⟨pre, w, suf, hfl, hpl, hwl, spre, sw, ssuf, hsuf0, hwV⟩ := win_facts i3 (i := i) (N := n + 1) (V := V) (P := 4294967296 ^ (n + 1)) (by omega) i6 rfl hVlt
        have hvfl := win_val (pre := pre) (w := w) hsuf0
        rw [← hfl, hpl] at hvfl
        rw [hV] at hwV
        have hlt1 := ltAB j4 j5
        obtain ⟨N, hN⟩ : ∃ N, N = n + 1 := ⟨_, rfl⟩
        obtain ⟨H, hH⟩ : ∃ H, H = i + N + 1 := ⟨_, rfl⟩
        obtain ⟨ac', hcut⟩ : ∃ ac' : Nat, (if i = 0 then AV.slice AB 0 H (LA + 2) true 1 else if i < LA + 2 then AV.slice AB (0 + i * 1) (H - i) (LA + 2 - i) true 1 else AV.slice AB 0 0 0 true 1) = .slice AB i (N + 1) ac' true 1 := by
          by_cases h0 : i = 0
          · subst h0; exact ⟨LA + 2, by rw [if_pos rfl]; congr 1; omega⟩
          · refine ⟨LA + 2 - i, ?_⟩
            rw [if_neg h0, if_pos (by omega)]
            congr 1 <;> omega
        rw [← hN] at hwl hl2 htop2
        obtain ⟨m5, v5, h5, q5, ⟨q, w', rfl, p1, p2, p3, p4, p5, p6⟩, G5⟩ := ((step_run B.toBase hstep (h := ⟨h'.m, h'.nx + 16⟩) (fun b hb => j4 b (by simp only at hb; omega)) (ab := AB) (bb := rb2) (bo := off2) (ac := ac') (bc := cap2) (n := N) (ae := true) (be := ex2) (pre := pre) (w := w) (suf := suf) (db := ds2) (by show h'.m.get AB = _; rw [j5, ← hfl]) hwl sw (hg2r (H := ⟨h'.m, h'.nx + 16⟩) j3) hl2 (by omega) (by omega) ok2.1 hrbAB htop2 hwV).grow G).lift
        rw [hpl] at q5
        have q5' := q5 m5 (Nat.le_refl _)
        have hQ5 : h5.m.get QB = some (.row (u32s out) false) := by rw [p5, if_neg (Ne.symm hABQ)]; exact j6
        have hql : q < 4294967296 := by rw [p1]; exact Nat.div_lt_of_lt_mul (by rw [Nat.mul_comm]; exact hwV)
        have hp := putCells_u32 (h := h5) hQ5 (i := i) (x := q) (by omega)
        have c1 : IntKind.i64.wrap (((i : Nat) : Int) + ((N : Nat) : Int)) = ((i + N : Nat) : Int) := by rw [wrap_i64] <;> omega
        have c2 : IntKind.i64.wrap (((i + N : Nat) : Int) + 1) = ((H : Nat) : Int) := by rw [wrap_i64] <;> omega
        have c3 : (0 ≤ ((H : Nat) : Int) ∧ ((H : Nat) : Int) ≤ ((LA + 2 : Nat) : Int)) := by omega
        have c4 : (0 ≤ ((i : Nat) : Int) ∧ ((i : Nat) : Int) ≤ ((H : Nat) : Int)) := by omega
        have c5 : (LA + 1).ble (LA + 2) = true := Nat.ble_eq_true_of_le (by omega)
        have c6 : (0 ≤ ((i : Nat) : Int) ∧ ((i : Nat) : Int) < ((K : Nat) : Int)) := by omega
        refine Ex.last (m := m5) (by simp (config := {decide := true}) only [RS, Nat.reduceAdd, g7, g11, g12, g13, tSl, tU32, hU32, sU32, aLen, c1, c2, c3, c4, c5, c6, Int.toNat_natCast, hcut, fn_step, hl2, q5', hp]; rfl) ?_
        simp (config := {decide := true}) only [thenK, blockK, ite_true, ite_false, if_true, if_false]
        have c7 : IntKind.i64.wrap (((i : Nat) : Int) - 1) = (i : Int) - 1 := by rw [wrap_i64] <;> omega
        refine Ex.last (m := 0) (by simp (config := {decide := true}) only [RS, Nat.reduceAdd, g13, c7]; rfl) ?_
        simp (config := {decide := true}) only [thenK, blockK, ite_true, ite_false, if_true, if_false]
        have f5 := G5.fr (fun b hb => j4 b (by simp only at hb; omega))
        have hnQ5 : h'.nx + 16 ≤ h5.nx := G5.1
        have hltQ := j4
        have hQlt : QB < h'.nx := by
          rcases Nat.lt_or_ge QB h'.nx with a | a
          · exact a
          · rw [j4 QB a] at j6; cases j6
        refine ⟨i, Nat.lt_succ_self i, pre ++ w' ++ suf, out.set i q, by omega, by simp only [List.length_append]; rw [hfl] at i2; simp only [List.length_append] at i2; omega, fun d hd => ?_, by simpa using i4, small_set i5 hql i, ?_, ?_, fun b x hx => ?_, fun b hb => ?_, ?_, by simp only [PT.get_set, if_true], by simp (config := {decide := true}) only [RS, Nat.reduceAdd, g7], by simp (config := {decide := true}) only [RS, Nat.reduceAdd, g10], by simp (config := {decide := true}) only [RS, Nat.reduceAdd, g11], by simp (config := {decide := true}) only [RS, Nat.reduceAdd, g12], by simp (config := {decide := true}) only [RS, Nat.reduceAdd]⟩
        · rcases List.mem_append.1 hd with h0 | h0
          · rcases List.mem_append.1 h0 with h0 | h0
            · exact spre d h0
            · exact p3 d h0
          · exact ssuf d h0
        · have := win_drop (pre := pre) (w := w') hsuf0
          rw [hpl] at this
          rw [this, p6, ← hV]
          exact Nat.mod_lt _ hVp
        · have h1 := win_val (pre := pre) (w := w') hsuf0
          rw [hpl] at h1
          rw [h1, digVal_drop (by simpa using (by omega : i < out.length)), drop_set_above, dig_set_same (by omega)]
          have h2 := Nat.div_add_mod (digVal w) (digVal ds2)
          rw [← p1, ← p6, ← hV] at h2
          rw [Nat.pow_succ] at i7
          exact win_step (K := 0) (i := 0) h2.symm hvfl i7
        · have h1 : b ≠ QB := fun e => by rw [e, hQ3] at hx; cases hx
          have h2 : b ≠ AB := fun e => by rw [e, hnone6] at hx; cases hx
          simp only [PT.get_set]
          rw [if_neg h1, p5, if_neg h2]
          exact j3 b x hx
        · simp only at hb
          simp only [PT.get_set]
          rw [if_neg (by omega)]
          exact f5 b (by omega)
        · simp only [PT.get_set]
          rw [if_neg hABQ, p5, if_pos rfl]
    · refine ⟨fl0, List.replicate K 0, Nat.le_refl _, fl0l, fl0s, by simp, small_rep K, fl0d, ?_, fun b x hx => ?_, fun b hb => ?_, ?_, by simp only [PT.get_set, if_true], g7, g10, g11, g12, g13⟩
      · rw [List.drop_of_length_le (by simp), fl0v]; simp [digVal]
      · have h1 : b ≠ QB := fun e => by rw [e, hQ3] at hx; cases hx
        simp only [PT.get_set]
        rw [if_neg h1]; exact j3 b x hx
      · simp only at hb
        simp only [PT.get_set]
        rw [if_neg (by omega)]
        exact j4 b (by omega)
      · simp only [PT.get_set]
        rw [if_neg hABQ]; exact j5
  clear g7 g10 g11 g12 g13 j3 j4 j5 hnq hAl hmk
  rintro env h' ⟨fl, out, i2, i3, i4, i5, i6, i7, j3, j4, j5, j6, g10, g11, g12⟩
  have j4' : ∀ k, h'.nx ≤ k → (⟨h'.m, k⟩ : Hp).fr := fun k hk b hb => j4 b (by simp only at hb; omega)
  obtain ⟨m6, v6, h6, q6, M6, G6⟩ := ((of_dig_run B.of (j4' (h'.nx + 9) (by omega)) (DigAt.row (h := ⟨h'.m, h'.nx + 9⟩) (cap := out.length) (ex := true) j6 (Nat.le_refl _)) i5 (by omega)).grow G).lift
  have f6 := G6.fr (j4' (h'.nx + 9) (by omega))
  have s6 : h'.sub h6 := M6.hsub
  -- the rest's digits
  have hdrop : digVal (fl.take (LA + 1)) = digVal fl := by
    have h1 := digVal_take_succ fl (LA + 1)
    rw [List.take_of_length_le (by omega)] at h1
    have h2 : 4294967296 ^ (n + 1) ≤ 4294967296 ^ (LA + 1) := Nat.pow_le_pow_right (by omega) (by omega)
    rcases Nat.eq_zero_or_pos (dig fl (LA + 1)) with h3 | h3
    · rw [h3] at h1; omega
    · exfalso
      have h4 : 4294967296 ^ (LA + 1) * 1 ≤ 4294967296 ^ (LA + 1) * dig fl (LA + 1) := Nat.mul_le_mul_left _ h3
      omega
  have htl : (fl.take (LA + 1)).length = LA + 1 := by rw [List.length_take]; omega
  have hda' : DigAt h6 (.slice AB 0 (LA + 1) (LA + 2) true 1) (fl.take (LA + 1)) [AB] := by
    refine .inr ⟨AB, 0, LA + 2, true, rfl, by rw [htl], ?_, by omega⟩
    unfold getCells
    rw [s6 _ _ j5]
    simp only
    rw [if_pos (by simp only [u32s, List.length_map]; omega)]
    simp only [List.drop_zero, Option.some.injEq]
    rw [htl]
    unfold u32s
    rw [List.map_take]
  obtain ⟨m7, v7, h7, q7, M7, G7⟩ := ((of_dig_run B.of f6 hda' (small_take i3 _) (by omega)).grow G).lift
  have f7 := G7.fr f6
  obtain ⟨ds7, bs7, hn7, ok7, val7, new7⟩ := M7.num
  have hl7 : ds7.length ≤ LA + 1 := len_of_lt ok7 (by rw [val7]; exact digVal_take_lt i3 _)
  obtain ⟨m8, v8, h8, q8, M8, G8⟩ := ((down_run B.toBase hdown f7 hn7 ok7.1 (by omega) (k := s) (by omega)).grow G).lift
  obtain ⟨mm, hmm⟩ : ∃ mm, mm = m6 + m7 + m8 := ⟨_, rfl⟩
  have q6' := q6 mm (by omega)
  have q7' := q7 mm (by omega)
  have q8' := q8 mm (by omega)
  rw [i4] at q6'
  (repeat refine Ex.assoc ?_); refine Ex.step (m := mm) (by simp (config := {decide := true}) only [RS, Nat.reduceAdd, g10, g11, g12, fn_of, fn_down, q6', q7', q8']; rfl) ?_
  refine Ex.ret ⟨trivial, _, by simp (config := {decide := true}) only [RS, Nat.reduceAdd]; rfl, ?_⟩
  simp (config := {decide := true}) only [RS, Nat.reduceAdd]
  rw [if_neg hdb]
  have sh : h.sub h' := (s2.trans s3).trans j3
  have hQh : h.m.get QB = none := by
    cases hg : h.m.get QB with
    | none => rfl
    | some x => rw [s3 _ _ (s2 _ _ hg)] at hQ3; cases hQ3
  have e1 : digVal out = digVal da / digVal db := by
    have h1 : (digVal da * 2 ^ s) / V = digVal out := by
      rw [← i7, Nat.add_mul_div_left _ _ hVp, Nat.div_eq_of_lt i6, Nat.zero_add]
    rw [hV, val2, Nat.mul_div_mul_right _ _ hp2] at h1
    exact h1.symm
  have e2 : digVal ds7 / 2 ^ s = digVal da % digVal db := by
    have h1 : (digVal da * 2 ^ s) % V = digVal fl := by
      rw [← i7, Nat.add_mul_mod_self_left, Nat.mod_eq_of_lt i6]
    rw [hV, val2, Nat.mul_mod_mul_right] at h1
    rw [val7, hdrop, ← h1, Nat.mul_div_cancel _ hp2]
  refine ⟨v6, v8, rfl, ?_, ?_⟩
  · rw [← e1]
    refine ((M6.sub M7.hsub).sub M8.hsub).base sh (fun b hb => .inl ?_)
    simp only [List.mem_singleton] at hb; subst hb
    exact ⟨hQh, _, M8.hsub _ _ (M7.hsub _ _ (s6 _ _ j6)), rfl⟩
  · rw [← e2]
    exact M8.base ((sh.trans s6).trans M7.hsub) (fun b hb => by cases hb)
end Go.Vk
set_option linter.unusedSimpArgs false
set_option linter.unusedVariables false
set_option maxRecDepth 100000
set_option maxHeartbeats 4000000
namespace Go.Vk
open Go.Proofs (Tryz.prog)
/-- A call that leaves all where it is. -/
theorem ExF.same {P : Program} {hk : Hooks} (G : GrowOK hk) {f : FuncId} {args : List AV} {M : PT Blk} {N : Nat} {r : AV} (H : ExF P hk f args ⟨M, N⟩ fun r' h1 => r' = r ∧ h1.m = M) :
    ∃ m N1, N ≤ N1 ∧ ∀ n, m ≤ n → callF P hk n f args ⟨M, N⟩ = some (r, ⟨M, N1⟩) := by
  obtain ⟨m, r', h1, q, ⟨rfl, e⟩, g⟩ := (H.grow G).lift
  rcases h1 with ⟨M', N1⟩
  dsimp only at e
  subst e
  exact ⟨m, N1, g.1, q⟩
/-- A call that makes a number. -/
theorem ExF.made {P : Program} {hk : Hooks} (G : GrowOK hk) {f : FuncId} {args : List AV} {h : Hp} (hf : h.fr) {n : Nat} {A : List Nat} (H : ExF P hk f args h fun r' h1 => Made h h1 r' n A) :
    ∃ m v h1, Made h h1 v n A ∧ h1.fr ∧ h.nx ≤ h1.nx ∧ ∀ k, m ≤ k → callF P hk k f args h = some (v, h1) := by
  obtain ⟨m, v, h1, q, M, g⟩ := (H.grow G).lift
  exact ⟨m, v, h1, M, g.fr hf, g.1, q⟩
/-- A number that lies open. -/
def Nt (h : Hp) (v : AV) (n : Nat) : Prop := ∃ ds bs, NatAt h v ds bs ∧ digOk ds ∧ digVal ds = n
theorem Nt.sub {h h' : Hp} {v : AV} {n : Nat} (hn : Nt h v n) (hs : h.sub h') : Nt h' v n := by
  obtain ⟨ds, bs, h1, h2, h3⟩ := hn
  exact ⟨ds, bs, h1.sub hs, h2, h3⟩
theorem Made.nt {h h1 : Hp} {v : AV} {n : Nat} {A : List Nat} (hm : Made h h1 v n A) : Nt h1 v n := by
  obtain ⟨ds, bs, h1, h2, h3, _⟩ := hm
  exact ⟨ds, bs, h1, h2, h3⟩
theorem Nt.num {h : Hp} {v : AV} {n : Nat} (hn : Nt h v n) : ∃ ds bs, NumAt h v ds bs ∧ digOk ds ∧ digVal ds = n := by
  obtain ⟨ds, bs, h1, h2, h3⟩ := hn
  obtain ⟨b, bs', _, h4⟩ := h1.num
  exact ⟨ds, bs', h4, h2, h3⟩
theorem Nt.load {h : Hp} {v : AV} {n : Nat} (hn : Nt h v n) : ∃ b o sl ds, v = .ptr b o ∧ (∀ nx, getCells ⟨h.m, nx⟩ b (o + 0) 1 = some [sl]) ∧ (∀ H, aLen Tryz.prog 171 H sl = some (.int .i64 (ds.length : Nat))) ∧ digOk ds ∧ digVal ds = n ∧ ∃ bs, NumAt h (.ptr b o) ds bs := by
  obtain ⟨ds, bs, hna, h2, h3⟩ := hn
  obtain ⟨_, bs1, _, hnum⟩ := hna.num
  obtain ⟨b, o, cells, ro, sl, bs', rfl, rfl, k1, k2, k3⟩ := hna
  refine ⟨b, o, sl, ds, rfl, fun nx => cellAt_get (h := ⟨h.m, nx⟩) ?_, fun H => k3.len H, h2, h3, bs1, hnum⟩
  unfold cellAt; simp only [k1]; exact k2
theorem tz_even {x t : Nat} (hx : 0 < x) (ht : t ≤ tz x) : 2 ^ t * (x / 2 ^ t) = x := by
  obtain ⟨h1, _⟩ := tz_spec hx
  have : 2 ^ t ∣ x := by
    rw [h1]
    exact Nat.dvd_trans (Nat.pow_dvd_pow 2 ht) (Nat.dvd_mul_right _ _)
  exact Nat.mul_div_cancel' this
theorem odd_coprime_two {b t : Nat} (hb : b % 2 = 1) : Nat.Coprime (2 ^ t) b := by
  refine Nat.Coprime.pow_left t ?_
  rw [Nat.coprime_iff_gcd_eq_one]
  have h1 : Nat.gcd 2 b ∣ 2 := Nat.gcd_dvd_left 2 b
  have h2 : Nat.gcd 2 b ∣ b := Nat.gcd_dvd_right 2 b
  have h3 : Nat.gcd 2 b ≤ 2 := Nat.le_of_dvd (by omega) h1
  have h4 : 0 < Nat.gcd 2 b := Nat.gcd_pos_of_pos_left _ (by omega)
  rcases Nat.lt_or_ge (Nat.gcd 2 b) 2 with h5 | h5
  · omega
  · have : Nat.gcd 2 b = 2 := by omega
    rw [this] at h2; omega
/-- Odd parts. -/
theorem gcd_parts {a b : Nat} (ha : 0 < a) (hb : 0 < b) : Nat.gcd (a / 2 ^ tz a) (b / 2 ^ tz b) * 2 ^ (min (tz a) (tz b)) = Nat.gcd a b := by
  obtain ⟨a1, a2⟩ := tz_spec ha
  obtain ⟨b1, b2⟩ := tz_spec hb
  generalize a / 2 ^ tz a = x at *
  generalize b / 2 ^ tz b = y at *
  generalize tz a = s at *
  generalize tz b = t at *
  rw [a1, b1]
  rcases Nat.le_total s t with h | h
  · rw [Nat.min_eq_left h, show t = s + (t - s) by omega, Nat.pow_add, Nat.mul_assoc, Nat.gcd_mul_left, Nat.mul_comm (2 ^ (t - s)) y, Nat.Coprime.gcd_mul_right_cancel_right _ (odd_coprime_two a2), Nat.mul_comm]
  · rw [Nat.min_eq_right h, show s = t + (s - t) by omega, Nat.pow_add, Nat.mul_assoc, Nat.gcd_mul_left, Nat.mul_comm (2 ^ (s - t)) x, Nat.Coprime.gcd_mul_right_cancel _ (odd_coprime_two b2), Nat.mul_comm]
/-- One round. -/
theorem gcd_round {a b : Nat} (hb : b % 2 = 1) (hlt : b < a) : Nat.gcd ((a - b) / 2 ^ tz (a - b)) b = Nat.gcd a b := by
  obtain ⟨a1, a2⟩ := tz_spec (x := a - b) (by omega)
  have h1 : Nat.gcd (a - b) b = Nat.gcd a b := by
    have : a = (a - b) + b := by omega
    rw [this, Nat.gcd_add_self_left]
    congr 1; omega
  rw [← h1]
  generalize (a - b) / 2 ^ tz (a - b) = x at *
  generalize tz (a - b) = s at *
  rw [a1, Nat.mul_comm, Nat.Coprime.gcd_mul_right_cancel _ (odd_coprime_two hb)]
theorem fn_shifts : fnE Tryz.prog 204 = some ⟨(Go.Proofs.Tryz.f204.body).getD .skip, 77, [.tmp 4]⟩ := by kernel_rfl
theorem eT302 : True := trivial
end Go.Vk
set_option linter.unusedSimpArgs false
set_option linter.unusedVariables false
set_option maxRecDepth 100000
set_option maxHeartbeats 4000000
namespace Go.Vk
open Go.Proofs (Tryz.prog)
/-- What is not hooked. -/
structure Bare (hk : Hooks) : Prop extends Base2 hk where
  grow : GrowOK hk
  len : ∀ a h, hk 201 a h = none
  zeros : ∀ a h, hk 323 a h = none
  twos : ∀ a h, hk 243 a h = none
  up : ∀ a h, hk 205 a h = none
  down : ∀ a h, hk 207 a h = none
  short : ∀ a h, hk 124 a h = none
  Of : ∀ a h, hk 75 a h = none
  step : ∀ a h, hk 206 a h = none
  less : ∀ a h, hk 134 a h = none
  common : ∀ a h, hk 203 a h = none
  word : ∀ a h, hk 202 a h = none
  div : ∀ a h, hk 136 a h = none
  shifts : ∀ a h, hk 204 a h = none
  gcd : ∀ a h, hk 135 a h = none
theorem lt_len {ds : List Nat} (hd : digOk ds) {x L : Nat} (hx : digVal ds = x) (hl : x < 4294967296 ^ L) (hL : L < 5000000000) : ds.length < 5000000000 := by
  have := len_of_lt hd (k := L) (by rw [hx]; exact hl)
  omega
theorem tz_small {x L : Nat} (h : 0 < x) (hl : x < 4294967296 ^ L) (hL : L < 5000000000) : tz x < 10000000000000 := by
  have := tz_lt h (n := 32 * L) (by rw [Nat.pow_mul, show (2 : Nat) ^ 32 = 4294967296 by decide]; exact hl)
  omega
theorem shifts_run {hk : Hooks} (B : Bare hk) {h : Hp} (hf : h.fr) {va vb : AV} {da db ba bb : List Nat} (ha : NumAt h va da ba) (hb : NumAt h vb db bb) (sa : digOk da) (sb : digOk db) {LL : Nat} (hLL : LL < 5000000000)
    (la : digVal da < 4294967296 ^ LL) (lb : digVal db < 4294967296 ^ LL) (pa : 0 < digVal da) (pb : 0 < digVal db) :
    ExF Tryz.prog hk 204 [va, vb] h fun r' h1 => Made h h1 r' (Nat.gcd (digVal da) (digVal db)) [] := by
  refine ExF.body fn_shifts (B.shifts _ _) (by simp) ?_
  simp only [Go.Proofs.Tryz.f204, Option.getD_some]
  have lda := lt_len sa rfl la hLL
  have ldb := lt_len sb rfl lb hLL
  have ta := tz_small pa la hLL
  have tb := tz_small pb lb hLL
  obtain ⟨m1, N1, x1, q1⟩ := ExF.same B.grow (twos_run B.toBase B.len B.zeros B.twos (h := ⟨h.m, h.nx + 7⟩) (show NumAt ⟨h.m, h.nx + 7⟩ va da ba from ha) sa.1 (by omega))
  obtain ⟨m2, N2, x2, q2⟩ := ExF.same B.grow (twos_run B.toBase B.len B.zeros B.twos (h := ⟨h.m, N1⟩) (show NumAt ⟨h.m, N1⟩ vb db bb from hb) sb.1 (by omega))
  obtain ⟨m3, N3, x3, q3⟩ := ExF.same B.grow (twos_run B.toBase B.len B.zeros B.twos (h := ⟨h.m, N2 + 10⟩) (show NumAt ⟨h.m, N2 + 10⟩ va da ba from ha) sa.1 (by omega))
  have hfN : ∀ k, h.nx ≤ k → (⟨h.m, k⟩ : Hp).fr := fun k hk b hb => hf b (by simp only at hb; omega)
  obtain ⟨m4, v4, h4, M4, f4, x4, q4⟩ := ExF.made B.grow (hfN N3 (by omega)) (down_run B.toBase B.down (hfN N3 (by omega)) (show NumAt ⟨h.m, N3⟩ va da ba from ha) sa.1 (by omega) ta)
  rcases h4 with ⟨H4, N4⟩
  have s4 : h.sub ⟨H4, N4⟩ := M4.hsub
  obtain ⟨m5, N5, x5, q5⟩ := ExF.same B.grow (twos_run B.toBase B.len B.zeros B.twos (NumAt.sub s4 hb) sb.1 (by omega))
  have f5 : (⟨H4, N5⟩ : Hp).fr := fun b hb => f4 b (by simp only at hb ⊢; omega)
  obtain ⟨m6, v6, h6, M6, f6, x6, q6⟩ := ExF.made B.grow f5 (down_run B.toBase B.down f5 (NumAt.sub (h2 := ⟨H4, N5⟩) s4 hb) sb.1 (by omega) tb)
  rcases h6 with ⟨H6, N6⟩
  obtain ⟨mm, hmm⟩ : ∃ mm, mm = m1 + m2 + m3 + m4 + m5 + m6 := ⟨_, rfl⟩
  have q1' := q1 mm (by omega)
  have q2' := q2 mm (by omega)
  have q3' := q3 mm (by omega)
  have q4' := q4 mm (by omega)
  have q5' := q5 mm (by omega)
  have q6' := q6 mm (by omega)
  obtain ⟨s, hs⟩ : ∃ s, s = min (tz (digVal da)) (tz (digVal db)) := ⟨_, rfl⟩
  have hmin : (if ((tz (digVal db) : Nat) : Int) < ((tz (digVal da) : Nat) : Int) then ((tz (digVal db) : Nat) : Int) else ((tz (digVal da) : Nat) : Int)) = ((s : Nat) : Int) := by
    rw [hs]; split <;> omega
  (repeat refine Ex.assoc ?_); refine Ex.step (m := 0) (by simp (config := {decide := true}) only [RS, Nat.reduceAdd]; rfl) ?_
  (repeat refine Ex.assoc ?_); refine Ex.step (m := mm) (by simp (config := {decide := true}) only [RS, Nat.reduceAdd, fn_twos, q1', q2', minA, hmin]; rfl) ?_
  (repeat refine Ex.assoc ?_); refine Ex.step (m := mm) (by simp (config := {decide := true}) only [RS, Nat.reduceAdd, fn_twos, fn_down, q3', q4', q5', q6']; rfl) ?_
  refine Ex.forget fun E hE => ?_; have k0 := hE 0; simp (config := {decide := true}) only [RS, Nat.reduceAdd] at k0; have k1 := hE 1; simp (config := {decide := true}) only [RS, Nat.reduceAdd] at k1; have k5 := hE 5; simp (config := {decide := true}) only [RS, Nat.reduceAdd] at k5; clear hE; have g0 := k0; clear k0; have g1 := k1; clear k1; have g5 := k5; clear k5
  have s6 : h.sub ⟨H6, N6⟩ := s4.trans M6.hsub
  obtain ⟨o1, o2⟩ := tz_spec pa
  obtain ⟨o3, o4⟩ := tz_spec pb
  have hgp := gcd_parts pa pb
  rw [← hs] at hgp
  have l1 : digVal da / 2 ^ tz (digVal da) < 4294967296 ^ LL := Nat.lt_of_le_of_lt (Nat.div_le_self _ _) la
  have l2 : digVal db / 2 ^ tz (digVal db) < 4294967296 ^ LL := Nat.lt_of_le_of_lt (Nat.div_le_self _ _) lb
  refine Ex.block (Ex.loop (fun k env h' => ∃ (wa wb : AV) (x y : Nat), k = x + y ∧ x % 2 = 1 ∧ y % 2 = 1 ∧ x < 4294967296 ^ LL ∧ y < 4294967296 ^ LL ∧ Nat.gcd x y * 2 ^ s = Nat.gcd (digVal da) (digVal db) ∧ h.sub h' ∧ h'.fr ∧ Nt h' wa x ∧ Nt h' wb y ∧
    env.get 0 = some wa ∧ env.get 1 = some wb ∧ env.get 5 = some (.int .i64 s)) ?_ (digVal da / 2 ^ tz (digVal da) + digVal db / 2 ^ tz (digVal db)) _ _ ?_)
  · clear g0 g1 g5
    rintro k env h' ⟨wa, wb, x, y, rfl, ox, oy, lx, ly, hg, i1, i2, nta, ntb, g0, g1, g5⟩
    rcases h' with ⟨M, N⟩
    have hfM : ∀ k, N ≤ k → (⟨M, k⟩ : Hp).fr := fun k hk b hb => i2 b (by simp only at hb ⊢; omega)
    obtain ⟨dx, bx, nx, okx, vx⟩ := nta.num
    obtain ⟨dy, by', ny, oky, vy⟩ := ntb.num
    have ldx := lt_len okx vx lx hLL
    have ldy := lt_len oky vy ly hLL
    have nax := nx.num okx.1 ldx
    have nay := ny.num oky.1 ldy
    rw [vx] at nax
    rw [vy] at nay
    have hsl : s < 10000000000000 := by omega
    have cc : ∀ m nx, callF Tryz.prog hk m 92 [wa, wb] ⟨M, nx⟩ = some (.int .i64 (cmpN x y), ⟨M, nx⟩) := fun m nx => callF_hk (B.cmp _ _ _ _ _ nax nay)
    refine Ex.block ?_
    (repeat refine Ex.assoc ?_); refine Ex.step (m := 0) (by simp (config := {decide := true}) only [RS, Nat.reduceAdd, g0, g1, fn_cmp, cc]; rfl) ?_
    refine Ex.forget fun E hE => ?_; have k0 := hE 0; simp (config := {decide := true}) only [RS, Nat.reduceAdd, g0, g1, g5] at k0; have k1 := hE 1; simp (config := {decide := true}) only [RS, Nat.reduceAdd, g0, g1, g5] at k1; have k5 := hE 5; simp (config := {decide := true}) only [RS, Nat.reduceAdd, g0, g1, g5] at k5; have k27 := hE 27; simp (config := {decide := true}) only [RS, Nat.reduceAdd, g0, g1, g5] at k27; clear hE g0 g1 g5; have g0 := k0; clear k0; have g1 := k1; clear k1; have g5 := k5; clear k5; have g27 := k27; clear k27
    refine Ex.cut (fun env h' => ∃ (wa' wb' : AV) (x' y' : Nat), y' < x' ∧ x' + y' = x + y ∧ x' % 2 = 1 ∧ y' % 2 = 1 ∧ x' < 4294967296 ^ LL ∧ y' < 4294967296 ^ LL ∧ Nat.gcd x' y' * 2 ^ s = Nat.gcd (digVal da) (digVal db) ∧ Nt ⟨M, N⟩ wa' x' ∧ Nt ⟨M, N⟩ wb' y' ∧
      env.get 0 = some wa' ∧ env.get 1 = some wb' ∧ env.get 5 = some (.int .i64 s) ∧ h'.m = M ∧ N ≤ h'.nx) (Ex.block ?_) ?_
    · rcases Nat.lt_trichotomy x y with hlt | heq | hgt
      · have e1 : cmpN x y = -1 := by unfold cmpN; rw [if_pos hlt]
        rw [e1] at g27
        (repeat refine Ex.assoc ?_); refine Ex.step (m := 0) (by simp (config := {decide := true}) only [RS, Nat.reduceAdd, g27]; rfl) ?_
        refine Ex.forget fun E hE => ?_; have k0 := hE 0; simp (config := {decide := true}) only [RS, Nat.reduceAdd, g0, g1, g5, g27] at k0; have k1 := hE 1; simp (config := {decide := true}) only [RS, Nat.reduceAdd, g0, g1, g5, g27] at k1; have k5 := hE 5; simp (config := {decide := true}) only [RS, Nat.reduceAdd, g0, g1, g5, g27] at k5; have k27 := hE 27; simp (config := {decide := true}) only [RS, Nat.reduceAdd, g0, g1, g5, g27] at k27; have k28 := hE 28; simp (config := {decide := true}) only [RS, Nat.reduceAdd, g0, g1, g5, g27] at k28; clear hE g0 g1 g5 g27; have g0 := k0; clear k0; have g1 := k1; clear k1; have g5 := k5; clear k5; have g27 := k27; clear k27; have g28 := k28; clear k28
        refine Ex.cond_false (by simp (config := {decide := true}) only [RS, Nat.reduceAdd, g28]; rfl) ?_
        (repeat refine Ex.assoc ?_); refine Ex.step (m := 0) (by simp (config := {decide := true}) only [RS, Nat.reduceAdd, g27]; rfl) ?_
        refine Ex.forget fun E hE => ?_; have k0 := hE 0; simp (config := {decide := true}) only [RS, Nat.reduceAdd, g0, g1, g5, g27, g28] at k0; have k1 := hE 1; simp (config := {decide := true}) only [RS, Nat.reduceAdd, g0, g1, g5, g27, g28] at k1; have k5 := hE 5; simp (config := {decide := true}) only [RS, Nat.reduceAdd, g0, g1, g5, g27, g28] at k5; have k33 := hE 33; simp (config := {decide := true}) only [RS, Nat.reduceAdd, g0, g1, g5, g27, g28] at k33; clear hE g0 g1 g5 g27 g28; have g0 := k0; clear k0; have g1 := k1; clear k1; have g5 := k5; clear k5; have g33 := k33; clear k33
        refine Ex.cond_true (by simp (config := {decide := true}) only [RS, Nat.reduceAdd, g33]; rfl) ?_
        refine Ex.last (m := 0) (by simp (config := {decide := true}) only [RS, Nat.reduceAdd, g0, g1]; rfl) ?_
        simp (config := {decide := true}) only [thenK, blockK, ite_true, ite_false, if_true, if_false]
        exact ⟨wb, wa, y, x, hlt, Nat.add_comm .., oy, ox, ly, lx, by rw [Nat.gcd_comm]; exact hg, ntb, nta, by simp (config := {decide := true}) only [RS, Nat.reduceAdd], by simp (config := {decide := true}) only [RS, Nat.reduceAdd], by simp (config := {decide := true}) only [RS, Nat.reduceAdd, g5], by trivial, (by first | omega | (simp only [Nat.add_assoc]; omega) | (dsimp only; omega))⟩
      · subst heq
        have e1 : cmpN x x = 0 := by unfold cmpN; rw [if_neg (by omega), if_neg (by omega)]
        rw [e1] at g27
        (repeat refine Ex.assoc ?_); refine Ex.step (m := 0) (by simp (config := {decide := true}) only [RS, Nat.reduceAdd, g27]; rfl) ?_
        refine Ex.forget fun E hE => ?_; have k0 := hE 0; simp (config := {decide := true}) only [RS, Nat.reduceAdd, g0, g1, g5, g27] at k0; have k1 := hE 1; simp (config := {decide := true}) only [RS, Nat.reduceAdd, g0, g1, g5, g27] at k1; have k5 := hE 5; simp (config := {decide := true}) only [RS, Nat.reduceAdd, g0, g1, g5, g27] at k5; have k28 := hE 28; simp (config := {decide := true}) only [RS, Nat.reduceAdd, g0, g1, g5, g27] at k28; clear hE g0 g1 g5 g27; have g0 := k0; clear k0; have g1 := k1; clear k1; have g5 := k5; clear k5; have g28 := k28; clear k28
        refine Ex.cond_true (by simp (config := {decide := true}) only [RS, Nat.reduceAdd, g28]; rfl) ?_
        obtain ⟨m1, v1, h1, M1, f1, x1, q1⟩ := ExF.made B.grow (hfM (N + 9) (by omega)) (up_run B.toBase B.up (hfM (N + 9) (by omega)) (show NumAt ⟨M, N + 9⟩ wa dx bx from nx) okx.1 (by omega) hsl)
        have q1' := q1 m1 (Nat.le_refl _)
        (repeat refine Ex.assoc ?_); refine Ex.step (m := m1) (by simp (config := {decide := true}) only [RS, Nat.reduceAdd, g0, g5, fn_up, q1']; rfl) ?_
        refine Ex.ret ?_
        simp (config := {decide := true}) only [thenK, blockK, ite_true, ite_false, if_true, if_false]
        refine ⟨trivial, _, by simp (config := {decide := true}) only [RS, Nat.reduceAdd]; rfl, ?_⟩
        simp (config := {decide := true}) only [RS, Nat.reduceAdd]
        rw [← hg, Nat.gcd_self, ← vx]
        exact M1.base i1 (fun b hb => by cases hb)
      · have e1 : cmpN x y = 1 := by unfold cmpN; rw [if_neg (by omega), if_pos hgt]
        rw [e1] at g27
        (repeat refine Ex.assoc ?_); refine Ex.step (m := 0) (by simp (config := {decide := true}) only [RS, Nat.reduceAdd, g27]; rfl) ?_
        refine Ex.forget fun E hE => ?_; have k0 := hE 0; simp (config := {decide := true}) only [RS, Nat.reduceAdd, g0, g1, g5, g27] at k0; have k1 := hE 1; simp (config := {decide := true}) only [RS, Nat.reduceAdd, g0, g1, g5, g27] at k1; have k5 := hE 5; simp (config := {decide := true}) only [RS, Nat.reduceAdd, g0, g1, g5, g27] at k5; have k27 := hE 27; simp (config := {decide := true}) only [RS, Nat.reduceAdd, g0, g1, g5, g27] at k27; have k28 := hE 28; simp (config := {decide := true}) only [RS, Nat.reduceAdd, g0, g1, g5, g27] at k28; clear hE g0 g1 g5 g27; have g0 := k0; clear k0; have g1 := k1; clear k1; have g5 := k5; clear k5; have g27 := k27; clear k27; have g28 := k28; clear k28
        refine Ex.cond_false (by simp (config := {decide := true}) only [RS, Nat.reduceAdd, g28]; rfl) ?_
        (repeat refine Ex.assoc ?_); refine Ex.step (m := 0) (by simp (config := {decide := true}) only [RS, Nat.reduceAdd, g27]; rfl) ?_
        refine Ex.forget fun E hE => ?_; have k0 := hE 0; simp (config := {decide := true}) only [RS, Nat.reduceAdd, g0, g1, g5, g27, g28] at k0; have k1 := hE 1; simp (config := {decide := true}) only [RS, Nat.reduceAdd, g0, g1, g5, g27, g28] at k1; have k5 := hE 5; simp (config := {decide := true}) only [RS, Nat.reduceAdd, g0, g1, g5, g27, g28] at k5; have k33 := hE 33; simp (config := {decide := true}) only [RS, Nat.reduceAdd, g0, g1, g5, g27, g28] at k33; clear hE g0 g1 g5 g27 g28; have g0 := k0; clear k0; have g1 := k1; clear k1; have g5 := k5; clear k5; have g33 := k33; clear k33
        refine Ex.cond_false (by simp (config := {decide := true}) only [RS, Nat.reduceAdd, g33]; rfl) (Ex.skip ?_)
        simp (config := {decide := true}) only [thenK, blockK, ite_true, ite_false, if_true, if_false]
        exact ⟨wa, wb, x, y, hgt, rfl, ox, oy, lx, ly, hg, nta, ntb, g0, g1, g5, by trivial, (by first | omega | (simp only [Nat.add_assoc]; omega) | (dsimp only; omega))⟩
    · clear g0 g1 g5 g27 hg nta ntb cc nax nay ldx ldy nx ny okx oky vx vy lx ly ox oy
      rintro env h' ⟨wa', wb', x', y', hlt, hsum, ox, oy, lx, ly, hg, nta, ntb, g0, g1, g5, e1, e2⟩
      rcases h' with ⟨M', N'⟩
      dsimp only at e1 e2
      subst e1
      obtain ⟨dx, bx, nx, okx, vx⟩ := nta.num
      obtain ⟨dy, by', ny, oky, vy⟩ := ntb.num
      have ldx := lt_len okx vx lx hLL
      have ldy := lt_len oky vy ly hLL
      obtain ⟨m1, v1, h1, q1, k1, G1⟩ := ((less_run B.toBase2 B.less (hfM (N' + 8) (by omega)) (show NumAt ⟨M', N' + 8⟩ wa' dx bx from nx) (show NumAt ⟨M', N' + 8⟩ wb' dy by' from ny) okx.1 oky.1 ldx ldy).grow B.grow).lift
      rw [if_neg (by omega)] at k1
      obtain ⟨w1, rfl, M1⟩ := k1
      rw [vx, vy] at M1
      have f1 := G1.fr (hfM (N' + 8) (by omega))
      rcases h1 with ⟨H1, N1⟩
      have q1' := q1 m1 (Nat.le_refl _)
      (repeat refine Ex.assoc ?_); refine Ex.step (m := m1) (by simp (config := {decide := true}) only [RS, Nat.reduceAdd, g0, g1, fn_less, q1']; rfl) ?_
      refine Ex.forget fun E hE => ?_; have k1 := hE 1; simp (config := {decide := true}) only [RS, Nat.reduceAdd, g0, g1, g5] at k1; have k5 := hE 5; simp (config := {decide := true}) only [RS, Nat.reduceAdd, g0, g1, g5] at k5; have k6 := hE 6; simp (config := {decide := true}) only [RS, Nat.reduceAdd, g0, g1, g5] at k6; clear hE g0 g1 g5; have g1 := k1; clear k1; have g5 := k5; clear k5; have g6 := k6; clear k6
      obtain ⟨d1, b1, n1, ok1, v1⟩ := M1.nt.num
      have lr : x' - y' < 4294967296 ^ LL := by omega
      have ld1 := lt_len ok1 v1 lr hLL
      have tr := tz_small (x := x' - y') (by omega) lr hLL
      have f1' : ∀ k, N1 ≤ k → (⟨H1, k⟩ : Hp).fr := fun k hk b hb => f1 b (by simp only at hb ⊢; omega)
      obtain ⟨m2, N2, x2, q2⟩ := ExF.same B.grow (twos_run B.toBase B.len B.zeros B.twos (h := ⟨H1, N1 + 5⟩) (show NumAt ⟨H1, N1 + 5⟩ w1 d1 b1 from n1) ok1.1 (by omega))
      rw [v1] at q2
      obtain ⟨m3, v3, h3, M3, f3, x3, q3⟩ := ExF.made B.grow (f1' N2 (by omega)) (down_run B.toBase B.down (f1' N2 (by omega)) (show NumAt ⟨H1, N2⟩ w1 d1 b1 from n1) ok1.1 (by omega) tr)
      rw [v1] at M3
      rcases h3 with ⟨H3, N3⟩
      obtain ⟨mm, hmm⟩ : ∃ mm, mm = m2 + m3 := ⟨_, rfl⟩
      have q2' := q2 mm (by omega)
      have q3' := q3 mm (by omega)
      (repeat refine Ex.assoc ?_); refine Ex.step (m := mm) (by simp (config := {decide := true}) only [RS, Nat.reduceAdd, g6, fn_twos, fn_down, q2', q3']; rfl) ?_
      refine Ex.forget fun E hE => ?_; have k0 := hE 0; simp (config := {decide := true}) only [RS, Nat.reduceAdd, g1, g5, g6] at k0; have k1 := hE 1; simp (config := {decide := true}) only [RS, Nat.reduceAdd, g1, g5, g6] at k1; have k5 := hE 5; simp (config := {decide := true}) only [RS, Nat.reduceAdd, g1, g5, g6] at k5; clear hE g1 g5 g6; have g0 := k0; clear k0; have g1 := k1; clear k1; have g5 := k5; clear k5
      have hround := gcd_round oy hlt
      obtain ⟨z, hz⟩ : ∃ z, z = (x' - y') / 2 ^ tz (x' - y') := ⟨_, rfl⟩
      have oz : z % 2 = 1 := by rw [hz]; exact (tz_spec (x := x' - y') (by omega)).2
      have lz : z ≤ x' - y' := by rw [hz]; exact Nat.div_le_self _ _
      have hg' : Nat.gcd z y' * 2 ^ s = Nat.gcd (digVal da) (digVal db) := by rw [hz, hround]; exact hg
      have nz : Nt ⟨H3, N3⟩ v3 z := by rw [hz]; exact M3.nt
      have nyb : Nt ⟨H3, N3⟩ wb' y' := ntb.sub (Hp.sub.trans (b := ⟨H1, N1⟩) M1.hsub M3.hsub)
      have s3 : h.sub ⟨H3, N3⟩ := i1.trans (Hp.sub.trans (b := ⟨H1, N1⟩) M1.hsub M3.hsub)
      obtain ⟨pb, po, psl, pds, rfl, pl1, pl2, pok, pv, pbs, pnum⟩ := nz.load
      obtain ⟨ub, uo, usl, uds, rfl, ul1, ul2, uok, uv, ubs, unum⟩ := nyb.load
      have h01 : 0 < 1 := Nat.one_pos
      refine Ex.cut (fun env h' => ∃ b : Bool, env.get 60 = some (.bool b) ∧ (b = true → pds.length ≤ 2 ∧ uds.length ≤ 2) ∧ env.get 0 = some (.ptr pb po) ∧ env.get 1 = some (.ptr ub uo) ∧ env.get 5 = some (.int .i64 s) ∧ h'.m = H3 ∧ N3 ≤ h'.nx) ?_ ?_
      · by_cases hp : pds.length ≤ 2
        · have hp' : ((pds.length : Nat) : Int) ≤ 2 := by omega
          refine Ex.last (m := 0) (by simp (config := {decide := true}) only [RS, Nat.reduceAdd, g0, g1, fNat0, sSl, aSl, hSl, h01, if_pos, pl1, pl2, ul1, ul2, hp']; rfl) ?_
          simp (config := {decide := true}) only [thenK, blockK, ite_true, ite_false, if_true, if_false]
          exact ⟨decide (uds.length ≤ 2), by simp (config := {decide := true}) only [RS, Nat.reduceAdd]; congr 2; rw [decide_eq_decide]; omega, fun h => ⟨hp, of_decide_eq_true h⟩, by simp (config := {decide := true}) only [RS, Nat.reduceAdd, g0], by simp (config := {decide := true}) only [RS, Nat.reduceAdd, g1], by simp (config := {decide := true}) only [RS, Nat.reduceAdd, g5], by trivial, (by first | omega | (simp only [Nat.add_assoc]; omega) | (dsimp only; omega))⟩
        · have hp' : ¬ ((pds.length : Nat) : Int) ≤ 2 := by omega
          refine Ex.last (m := 0) (by simp (config := {decide := true}) only [RS, Nat.reduceAdd, g0, g1, fNat0, sSl, aSl, hSl, h01, if_pos, pl1, pl2, hp']; rfl) ?_
          simp (config := {decide := true}) only [thenK, blockK, ite_true, ite_false, if_true, if_false]
          exact ⟨false, by simp (config := {decide := true}) only [RS, Nat.reduceAdd], fun h => (by cases h), by simp (config := {decide := true}) only [RS, Nat.reduceAdd, g0], by simp (config := {decide := true}) only [RS, Nat.reduceAdd, g1], by simp (config := {decide := true}) only [RS, Nat.reduceAdd, g5], by trivial, (by first | omega | (simp only [Nat.add_assoc]; omega) | (dsimp only; omega))⟩
      · clear g0 g1 g5
        rintro env h' ⟨b, g60, hb2, g0, g1, g5, e1, e2⟩
        rcases h' with ⟨M4, N4⟩
        dsimp only at e1 e2
        subst e1
        cases b with
        | false =>
          refine Ex.cond_false (by simp (config := {decide := true}) only [RS, Nat.reduceAdd, g60]) (Ex.skip ?_)
          simp (config := {decide := true}) only [thenK, blockK, ite_true, ite_false, if_true, if_false]
          refine ⟨z + y', by omega, _, _, z, y', rfl, oz, oy, by omega, ly, hg', s3, fun b hb => f3 b (by simp only at hb ⊢; omega), nz, nyb, g0, g1, g5⟩
        | true =>
          obtain ⟨hl1, hl2⟩ := hb2 rfl
          refine Ex.cond_true (by simp (config := {decide := true}) only [RS, Nat.reduceAdd, g60]) ?_
          have f4 : ∀ k, N4 ≤ k → (⟨M4, k⟩ : Hp).fr := fun k hk b hb => f3 b (by simp only at hb ⊢; omega)
          obtain ⟨m5, N5, x5, q5⟩ := ExF.same B.grow (word_run B.toBase B.word (h := ⟨M4, N4 + 7⟩) (show NumAt ⟨M4, N4 + 7⟩ (.ptr pb po) pds pbs from pnum) pok.1 (by omega))
          obtain ⟨m6, N6, x6, q6⟩ := ExF.same B.grow (word_run B.toBase B.word (h := ⟨M4, N5 + 7⟩) (show NumAt ⟨M4, N5 + 7⟩ (.ptr ub uo) uds ubs from unum) uok.1 (by omega))
          rw [if_pos hl1, pv] at q5
          rw [if_pos hl2, uv] at q6
          obtain ⟨m7, N7, x7, q7⟩ := ExF.same B.grow (common_run B.common (h := ⟨M4, N6 + 7⟩) (a := z) (b := y'))
          have hzw : Nat.gcd z y' < 18446744073709551616 := by
            have h1 := digVal_lt pok.1
            have h2 : 4294967296 ^ pds.length ≤ 4294967296 ^ 2 := Nat.pow_le_pow_right (by omega) hl1
            have h3 : Nat.gcd z y' ≤ z := Nat.gcd_le_left _ (by omega)
            have h4 : (4294967296 : Nat) ^ 2 = 18446744073709551616 := by decide
            omega
          obtain ⟨m8, v8, h8, M8, f8, x8, q8⟩ := ExF.made B.grow (f4 N7 (by omega)) (Of_run B.toBase B.Of (f4 N7 (by omega)) hzw)
          rcases h8 with ⟨H8, N8⟩
          obtain ⟨d8, b8, n8, ok8, vv8⟩ := M8.nt.num
          have ld8 : d8.length ≤ 2 := len_of_lt ok8 (by rw [vv8]; exact hzw)
          obtain ⟨m9, v9, h9, M9, f9, x9, q9⟩ := ExF.made B.grow f8 (up_run B.toBase B.up f8 n8 ok8.1 (by omega) hsl)
          obtain ⟨mm2, hmm2⟩ : ∃ mm, mm = m5 + m6 + m7 + m8 + m9 := ⟨_, rfl⟩
          have q5' := q5 mm2 (by omega)
          have q6' := q6 mm2 (by omega)
          have q7' := q7 mm2 (by omega)
          have q8' := q8 mm2 (by omega)
          have q9' := q9 mm2 (by omega)
          (repeat refine Ex.assoc ?_); refine Ex.step (m := mm2) (by simp (config := {decide := true}) only [RS, Nat.reduceAdd, g0, fn_word, q5']; rfl) ?_
          refine Ex.forget fun E hE => ?_; have k1 := hE 1; simp (config := {decide := true}) only [RS, Nat.reduceAdd, g0, g1, g5] at k1; have k5 := hE 5; simp (config := {decide := true}) only [RS, Nat.reduceAdd, g0, g1, g5] at k5; have k8 := hE 8; simp (config := {decide := true}) only [RS, Nat.reduceAdd, g0, g1, g5] at k8; clear hE g0 g1 g5; have g1 := k1; clear k1; have g5 := k5; clear k5; have g8 := k8; clear k8
          (repeat refine Ex.assoc ?_); refine Ex.step (m := mm2) (by simp (config := {decide := true}) only [RS, Nat.reduceAdd, g1, fn_word, q6']; rfl) ?_
          refine Ex.forget fun E hE => ?_; have k5 := hE 5; simp (config := {decide := true}) only [RS, Nat.reduceAdd, g1, g5, g8] at k5; have k8 := hE 8; simp (config := {decide := true}) only [RS, Nat.reduceAdd, g1, g5, g8] at k8; have k10 := hE 10; simp (config := {decide := true}) only [RS, Nat.reduceAdd, g1, g5, g8] at k10; clear hE g1 g5 g8; have g5 := k5; clear k5; have g8 := k8; clear k8; have g10 := k10; clear k10
          (repeat refine Ex.assoc ?_); refine Ex.step (m := mm2) (by simp (config := {decide := true}) only [RS, Nat.reduceAdd, g5, g8, g10, fn_common, fn_Of, fn_up, q7', q8', q9']; rfl) ?_
          refine Ex.ret ?_
          simp (config := {decide := true}) only [thenK, blockK, ite_true, ite_false, if_true, if_false]
          refine ⟨trivial, _, by simp (config := {decide := true}) only [RS, Nat.reduceAdd]; rfl, ?_⟩
          simp (config := {decide := true}) only [RS, Nat.reduceAdd]
          rw [← hg', ← vv8]
          exact M9.base (Hp.sub.trans (b := ⟨M4, N3⟩) s3 M8.hsub) (fun b hb => by cases hb)
  · exact ⟨v4, v6, _, _, rfl, o2, o4, l1, l2, hgp, s6, f6, (M4.nt.sub M6.hsub), M6.nt, g0, g1, g5⟩
end Go.Vk
set_option linter.unusedSimpArgs false
set_option linter.unusedVariables false
set_option maxRecDepth 100000
set_option maxHeartbeats 4000000
namespace Go.Vk
open Go.Proofs (Tryz.prog)
theorem fn_gcd : fnE Tryz.prog 135 = some ⟨(Go.Proofs.Tryz.f135.body).getD .skip, 60, [.tmp 4]⟩ := by kernel_rfl
theorem gcd_run {hk : Hooks} (B : Bare hk) {h : Hp} (hf : h.fr) {va vb : AV} {da db ba bb : List Nat} (ha : NumAt h va da ba) (hb : NumAt h vb db bb) (sa : digOk da) (sb : digOk db) {LL : Nat} (hLL : LL < 5000000000)
    (la : digVal da < 4294967296 ^ LL) (lb : digVal db < 4294967296 ^ LL) :
    ExF Tryz.prog hk 135 [va, vb] h fun r' h1 => Made h h1 r' (Nat.gcd (digVal da) (digVal db)) (ba ++ bb) := by
  refine ExF.body fn_gcd (B.gcd _ _) (by simp) ?_
  simp only [Go.Proofs.Tryz.f135, Option.getD_some]
  (repeat refine Ex.assoc ?_); refine Ex.step (m := 0) (by simp (config := {decide := true}) only [RS, Nat.reduceAdd]; rfl) ?_
  (repeat refine Ex.assoc ?_); refine Ex.step (m := 0) (by simp (config := {decide := true}) only [RS, Nat.reduceAdd]; rfl) ?_
  refine Ex.forget fun E hE => ?_; have k5 := hE 5; simp (config := {decide := true}) only [RS, Nat.reduceAdd] at k5; have k6 := hE 6; simp (config := {decide := true}) only [RS, Nat.reduceAdd] at k6; clear hE; have g5 := k5; clear k5; have g6 := k6; clear k6
  refine Ex.block (Ex.loop (fun k env h' => ∃ (wa wb : AV) (ea eb ca cb : List Nat), k = digVal eb ∧ NumAt h' wa ea ca ∧ NumAt h' wb eb cb ∧ digOk ea ∧ digOk eb ∧ digVal ea < 4294967296 ^ LL ∧ digVal eb < 4294967296 ^ LL ∧ Nat.gcd (digVal ea) (digVal eb) = Nat.gcd (digVal da) (digVal db) ∧ h.sub h' ∧ h'.fr ∧
    (∀ b ∈ ca, (h.m.get b = none ∧ ∃ x, h'.m.get b = some x ∧ x.rw = true) ∨ b ∈ ba ++ bb) ∧ (∀ b ∈ cb, (h.m.get b = none ∧ ∃ x, h'.m.get b = some x ∧ x.rw = true) ∨ b ∈ ba ++ bb) ∧
    env.get 5 = some wa ∧ env.get 6 = some wb) ?_ (digVal db) _ _ ?_)
  · clear g5 g6
    rintro k env h' ⟨wa, wb, ea, eb, ca, cb, rfl, na, nb, oa, ob, la', lb', hg, i1, i2, i3, i4, g5, g6⟩
    rcases h' with ⟨M, N⟩
    have hfM : ∀ k, N ≤ k → (⟨M, k⟩ : Hp).fr := fun k hk b hb => i2 b (by simp only at hb ⊢; omega)
    have lea := lt_len oa rfl la' hLL
    have leb := lt_len ob rfl lb' hLL
    refine Ex.block ?_
    obtain ⟨m1, N1, x1, q1⟩ := ExF.same B.grow (word_run B.toBase B.word (h := ⟨M, N + 7⟩) (show NumAt ⟨M, N + 7⟩ wa ea ca from na) oa.1 (by omega))
    obtain ⟨m2, N2, x2, q2⟩ := ExF.same B.grow (word_run B.toBase B.word (h := ⟨M, N1 + 7⟩) (show NumAt ⟨M, N1 + 7⟩ wb eb cb from nb) ob.1 (by omega))
    obtain ⟨mm, hmm⟩ : ∃ mm, mm = m1 + m2 := ⟨_, rfl⟩
    have q1' := q1 mm (by omega)
    have q2' := q2 mm (by omega)
    have hword : ∀ l v : Nat, ∃ (b : Bool) (x : Nat), (if l ≤ 2 then AV.tup [.int .u64 (v : Nat), .bool true] else .tup [.int .u64 0, .bool false]) = .tup [.int .u64 x, .bool b] ∧ (b = true → l ≤ 2 ∧ x = v) ∧ (b = false → 2 < l) := fun l v => by
      split
      · exact ⟨true, v, rfl, fun _ => ⟨by assumption, rfl⟩, fun h => by cases h⟩
      · exact ⟨false, 0, rfl, fun h => (by cases h), fun _ => by omega⟩
    obtain ⟨t1, x, ex, hx1, hx2⟩ := hword ea.length (digVal ea)
    obtain ⟨t2, y, ey, hy1, hy2⟩ := hword eb.length (digVal eb)
    rw [ex] at q1'
    rw [ey] at q2'
    (repeat refine Ex.assoc ?_); refine Ex.step (m := mm) (by simp (config := {decide := true}) only [RS, Nat.reduceAdd, g5, fn_word, q1']; rfl) ?_
    refine Ex.forget fun E hE => ?_; have k5 := hE 5; simp (config := {decide := true}) only [RS, Nat.reduceAdd, g5, g6] at k5; have k6 := hE 6; simp (config := {decide := true}) only [RS, Nat.reduceAdd, g5, g6] at k6; have k7 := hE 7; simp (config := {decide := true}) only [RS, Nat.reduceAdd, g5, g6] at k7; have k8 := hE 8; simp (config := {decide := true}) only [RS, Nat.reduceAdd, g5, g6] at k8; clear hE g5 g6; have g5 := k5; clear k5; have g6 := k6; clear k6; have g7 := k7; clear k7; have g8 := k8; clear k8
    (repeat refine Ex.assoc ?_); refine Ex.step (m := mm) (by simp (config := {decide := true}) only [RS, Nat.reduceAdd, g6, fn_word, q2']; rfl) ?_
    refine Ex.forget fun E hE => ?_; have k5 := hE 5; simp (config := {decide := true}) only [RS, Nat.reduceAdd, g5, g6, g7, g8] at k5; have k6 := hE 6; simp (config := {decide := true}) only [RS, Nat.reduceAdd, g5, g6, g7, g8] at k6; have k7 := hE 7; simp (config := {decide := true}) only [RS, Nat.reduceAdd, g5, g6, g7, g8] at k7; have k8 := hE 8; simp (config := {decide := true}) only [RS, Nat.reduceAdd, g5, g6, g7, g8] at k8; have k9 := hE 9; simp (config := {decide := true}) only [RS, Nat.reduceAdd, g5, g6, g7, g8] at k9; have k10 := hE 10; simp (config := {decide := true}) only [RS, Nat.reduceAdd, g5, g6, g7, g8] at k10; clear hE g5 g6 g7 g8; have g5 := k5; clear k5; have g6 := k6; clear k6; have g7 := k7; clear k7; have g8 := k8; clear k8; have g9 := k9; clear k9; have g10 := k10; clear k10
    (repeat refine Ex.assoc ?_)
    refine Ex.cut (fun env h' => env.get 29 = some (.bool (t1 && t2)) ∧ env.get 5 = some wa ∧ env.get 6 = some wb ∧ env.get 7 = some (.int .u64 x) ∧ env.get 9 = some (.int .u64 y) ∧ h'.m = M ∧ N2 + 4 ≤ h'.nx) ?_ ?_
    · cases t1 with
      | true =>
        refine Ex.last (m := 0) (by simp (config := {decide := true}) only [RS, Nat.reduceAdd, g8, g10]; rfl) ?_
        simp (config := {decide := true}) only [thenK, blockK, ite_true, ite_false, if_true, if_false]
        exact ⟨(by simp (config := {decide := true}) only [RS, Nat.reduceAdd] <;> simp), by simp (config := {decide := true}) only [RS, Nat.reduceAdd, g5], by simp (config := {decide := true}) only [RS, Nat.reduceAdd, g6], by simp (config := {decide := true}) only [RS, Nat.reduceAdd, g7], by simp (config := {decide := true}) only [RS, Nat.reduceAdd, g9], by trivial, (by first | omega | (simp only [Nat.add_assoc]; omega) | (dsimp only; omega))⟩
      | false =>
        refine Ex.last (m := 0) (by simp (config := {decide := true}) only [RS, Nat.reduceAdd, g8, g10]; rfl) ?_
        simp (config := {decide := true}) only [thenK, blockK, ite_true, ite_false, if_true, if_false]
        exact ⟨(by simp (config := {decide := true}) only [RS, Nat.reduceAdd] <;> simp), by simp (config := {decide := true}) only [RS, Nat.reduceAdd, g5], by simp (config := {decide := true}) only [RS, Nat.reduceAdd, g6], by simp (config := {decide := true}) only [RS, Nat.reduceAdd, g7], by simp (config := {decide := true}) only [RS, Nat.reduceAdd, g9], by trivial, (by first | omega | (simp only [Nat.add_assoc]; omega) | (dsimp only; omega))⟩
    clear g5 g6 g7 g8 g9 g10
    rintro env h' ⟨g29, g5, g6, g7, g9, e1, e2⟩
    rcases h' with ⟨M', N3⟩
    dsimp only at e1 e2
    subst e1
    cases hb3 : (t1 && t2) with
    | true =>
      rw [hb3] at g29
      rw [Bool.and_eq_true] at hb3
      obtain ⟨lx, rfl⟩ := hx1 hb3.1
      obtain ⟨ly, rfl⟩ := hy1 hb3.2
      refine Ex.ifT (by simp (config := {decide := true}) only [RS, Nat.reduceAdd, g29]) ?_
      obtain ⟨m3, N4, x3, q3⟩ := ExF.same B.grow (common_run B.common (h := ⟨M', N3 + 5⟩) (a := digVal ea) (b := digVal eb))
      have hzw : Nat.gcd (digVal ea) (digVal eb) < 18446744073709551616 := by
        have h4 : (4294967296 : Nat) ^ 2 = 18446744073709551616 := by decide
        have h1 := digVal_lt oa.1
        have h2 : 4294967296 ^ ea.length ≤ 4294967296 ^ 2 := Nat.pow_le_pow_right (by omega) lx
        have h5 := digVal_lt ob.1
        have h6 : 4294967296 ^ eb.length ≤ 4294967296 ^ 2 := Nat.pow_le_pow_right (by omega) ly
        rcases Nat.eq_zero_or_pos (digVal ea) with h7 | h7
        · rw [h7, Nat.gcd_zero_left]; omega
        · have h3 : Nat.gcd (digVal ea) (digVal eb) ≤ digVal ea := Nat.gcd_le_left _ h7
          omega
      obtain ⟨m4, v4, h4, M4, f4, x4, q4⟩ := ExF.made B.grow (hfM N4 (by omega)) (Of_run B.toBase B.Of (hfM N4 (by omega)) hzw)
      obtain ⟨mm2, hmm2⟩ : ∃ mm, mm = m3 + m4 := ⟨_, rfl⟩
      have q3' := q3 mm2 (by omega)
      have q4' := q4 mm2 (by omega)
      (repeat refine Ex.assoc ?_); refine Ex.step (m := mm2) (by simp (config := {decide := true}) only [RS, Nat.reduceAdd, g7, g9, fn_common, fn_Of, q3', q4']; rfl) ?_
      refine Ex.retS ?_
      simp (config := {decide := true}) only [thenK, blockK, ite_true, ite_false, if_true, if_false]
      refine ⟨trivial, _, by simp (config := {decide := true}) only [RS, Nat.reduceAdd]; rfl, ?_⟩
      simp (config := {decide := true}) only [RS, Nat.reduceAdd]
      rw [← hg]
      exact M4.base i1 (fun b hb => by cases hb)
    | false =>
      rw [hb3] at g29
      refine Ex.ifF (by simp (config := {decide := true}) only [RS, Nat.reduceAdd, g29]) (Ex.skipS ?_)
      obtain ⟨ra, ra1, ra2⟩ := na
      obtain ⟨rb, rb1, rb2⟩ := nb
      have cA : ∀ m nx, callF Tryz.prog hk m 123 [wa] ⟨M', nx⟩ = some (ra, ⟨M', nx⟩) := fun m nx => callF_hk (B.digits _ _ _ ra1)
      have cB : ∀ m nx, callF Tryz.prog hk m 123 [wb] ⟨M', nx⟩ = some (rb, ⟨M', nx⟩) := fun m nx => callF_hk (B.digits _ _ _ rb1)
      (repeat refine Ex.assoc ?_); refine Ex.step (m := 0) (by simp (config := {decide := true}) only [RS, Nat.reduceAdd, g6, fn_digits, cB, rb2.len]; rfl) ?_
      refine Ex.forget fun E hE => ?_; have k5 := hE 5; simp (config := {decide := true}) only [RS, Nat.reduceAdd, g5, g6] at k5; have k6 := hE 6; simp (config := {decide := true}) only [RS, Nat.reduceAdd, g5, g6] at k6; have k37 := hE 37; simp (config := {decide := true}) only [RS, Nat.reduceAdd, g5, g6] at k37; clear hE g5 g6; have g5 := k5; clear k5; have g6 := k6; clear k6; have g37 := k37; clear k37
      by_cases h0 : eb.length = 0
      · have h0' : ((eb.length : Int) == 0) = true := i_eq (by omega)
        refine Ex.ifT (by simp (config := {decide := true}) only [RS, Nat.reduceAdd, g37, h0']) ?_
        obtain ⟨m4, v4, h4, M4, f4, x4, q4⟩ := ExF.made B.grow (hfM (N3 + 8) (by omega)) (of_dig_run B.of (hfM (N3 + 8) (by omega)) (show DigAt ⟨M', N3 + 8⟩ ra ea ca from ra2) oa.1 (by omega))
        have q4' := q4 m4 (Nat.le_refl _)
        (repeat refine Ex.assoc ?_); refine Ex.step (m := m4) (by simp (config := {decide := true}) only [RS, Nat.reduceAdd, g5, fn_digits, cA, fn_of, q4']; rfl) ?_
        refine Ex.retS ?_
        simp (config := {decide := true}) only [thenK, blockK, ite_true, ite_false, if_true, if_false]
        refine ⟨trivial, _, by simp (config := {decide := true}) only [RS, Nat.reduceAdd]; rfl, ?_⟩
        simp (config := {decide := true}) only [RS, Nat.reduceAdd]
        have : eb = [] := List.eq_nil_of_length_eq_zero h0
        rw [← hg, this]
        simp only [digVal, Nat.gcd_zero_right]
        refine M4.base i1 (fun b hb => ?_)
        rcases i3 b hb with ⟨k1, x, k2, k3⟩ | k
        · exact .inl ⟨k1, x, M4.hsub _ _ k2, k3⟩
        · exact .inr k
      have h0' : ((eb.length : Int) == 0) = false := i_ne (by omega)
      have hpb : 0 < digVal eb := by
        rcases Nat.eq_zero_or_pos (digVal eb) with h1 | h1
        · exact absurd (by rw [digVal_zero ob h1]; rfl) h0
        · exact h1
      refine Ex.ifF (by simp (config := {decide := true}) only [RS, Nat.reduceAdd, g37, h0']) (Ex.skipS ?_)
      (repeat refine Ex.assoc ?_); refine Ex.step (m := 0) (by simp (config := {decide := true}) only [RS, Nat.reduceAdd, g5, g6, fn_digits, cA, cB, ra2.len, rb2.len]; rfl) ?_
      refine Ex.forget fun E hE => ?_; have k5 := hE 5; simp (config := {decide := true}) only [RS, Nat.reduceAdd, g5, g6] at k5; have k6 := hE 6; simp (config := {decide := true}) only [RS, Nat.reduceAdd, g5, g6] at k6; have k47 := hE 47; simp (config := {decide := true}) only [RS, Nat.reduceAdd, g5, g6] at k47; clear hE g5 g6; have g5 := k5; clear k5; have g6 := k6; clear k6; have g47 := k47; clear k47
      by_cases hl : ea.length = eb.length
      · have hl' : ((ea.length : Int) == (eb.length : Int)) = true := i_eq (by omega)
        refine Ex.ifF (by simp (config := {decide := true}) only [RS, Nat.reduceAdd, g47, hl']) (Ex.skipS ?_)
        have hpa : 0 < digVal ea := by
          rcases Nat.eq_zero_or_pos (digVal ea) with h1 | h1
          · rw [digVal_zero oa h1] at hl; exact absurd hl.symm h0
          · exact h1
        obtain ⟨m4, v4, h4, M4, f4, x4, q4⟩ := ExF.made B.grow (hfM (N3 + 15) (by omega)) (shifts_run B (hfM (N3 + 15) (by omega)) (show NumAt ⟨M', N3 + 15⟩ wa ea ca from ⟨ra, ra1, ra2⟩) (show NumAt ⟨M', N3 + 15⟩ wb eb cb from ⟨rb, rb1, rb2⟩) oa ob hLL la' lb' hpa hpb)
        have q4' := q4 m4 (Nat.le_refl _)
        (repeat refine Ex.assoc ?_); refine Ex.step (m := m4) (by simp (config := {decide := true}) only [RS, Nat.reduceAdd, g5, g6, fn_shifts, q4']; rfl) ?_
        refine Ex.ret ?_
        simp (config := {decide := true}) only [thenK, blockK, ite_true, ite_false, if_true, if_false]
        refine ⟨trivial, _, by simp (config := {decide := true}) only [RS, Nat.reduceAdd]; rfl, ?_⟩
        simp (config := {decide := true}) only [RS, Nat.reduceAdd]
        rw [← hg]
        exact M4.base i1 (fun b hb => by cases hb)
      · have hl' : ((ea.length : Int) == (eb.length : Int)) = false := i_ne (by omega)
        refine Ex.ifT (by simp (config := {decide := true}) only [RS, Nat.reduceAdd, g47, hl']) ?_
        obtain ⟨m4, v4, h4, q4, K4, G4⟩ := ((div_run B.grow B.toBase2 B.len B.up B.down B.short B.Of B.step B.div (hfM (N3 + 21) (by omega)) (show NumAt ⟨M', N3 + 21⟩ wa ea ca from ⟨ra, ra1, ra2⟩) (show NumAt ⟨M', N3 + 21⟩ wb eb cb from ⟨rb, rb1, rb2⟩) oa ob lea leb).grow B.grow).lift
        rw [if_neg (by omega)] at K4
        obtain ⟨vq, vr, rfl, Mq, Mr⟩ := K4
        have f4 := G4.fr (hfM (N3 + 21) (by omega))
        have q4' := q4 m4 (Nat.le_refl _)
        (repeat refine Ex.assoc ?_); refine Ex.step (m := m4) (by simp (config := {decide := true}) only [RS, Nat.reduceAdd, g5, g6, fn_div, q4']; rfl) ?_
        refine Ex.forget fun E hE => ?_; have k6 := hE 6; simp (config := {decide := true}) only [RS, Nat.reduceAdd, g5, g6] at k6; have k12 := hE 12; simp (config := {decide := true}) only [RS, Nat.reduceAdd, g5, g6] at k12; clear hE g5 g6; have g6 := k6; clear k6; have g12 := k12; clear k12
        (repeat refine Ex.assoc ?_); refine Ex.step (m := 0) (by simp (config := {decide := true}) only [RS, Nat.reduceAdd, g6, g12]; rfl) ?_
        refine Ex.exitS ?_
        simp (config := {decide := true}) only [thenK, blockK, ite_true, ite_false, if_true, if_false]
        obtain ⟨dr, br, nr, okr, vvr, kr⟩ := Mr.num
        have hlt : digVal ea % digVal eb < digVal eb := Nat.mod_lt _ hpb
        refine ⟨digVal dr, by rw [vvr]; exact hlt, wb, vr, eb, dr, cb, br, rfl, NumAt.sub (h := ⟨M', N3⟩) Mr.hsub ⟨rb, rb1, rb2⟩, nr, ob, okr, lb', by rw [vvr]; omega, ?_, i1.trans Mr.hsub, fun b hb => f4 b (by simp only at hb ⊢; omega), fun b hb => ?_, fun b hb => ?_, by simp (config := {decide := true}) only [RS, Nat.reduceAdd, g6], by simp (config := {decide := true}) only [RS, Nat.reduceAdd, g12]⟩
        · rw [vvr, ← hg, Nat.gcd_comm (digVal ea), Nat.gcd_rec (digVal eb) (digVal ea), Nat.gcd_comm]
        · rcases i4 b hb with ⟨k1, x, k2, k3⟩ | k
          · exact .inl ⟨k1, x, Mr.hsub _ _ k2, k3⟩
          · exact .inr k
        · rcases kr b hb with ⟨k1, k2⟩ | k
          · refine .inl ⟨?_, k2⟩
            cases hgb : h.m.get b with
            | none => rfl
            | some y => rw [i1 b y hgb] at k1; cases k1
          · rcases i3 b k with ⟨k1, x, k2, k3⟩ | k
            · exact .inl ⟨k1, x, Mr.hsub _ _ k2, k3⟩
            · exact .inr k
  · exact ⟨va, vb, da, db, ba, bb, rfl, ha, hb, sa, sb, la, lb, rfl, fun _ _ h => h, fun b hb => hf b (by simp only at hb ⊢; omega), fun b hb => .inr (List.mem_append_left _ hb), fun b hb => .inr (List.mem_append_right _ hb), g5, g6⟩
end Go.Vk
set_option linter.unusedSimpArgs false
set_option linter.unusedVariables false
set_option maxRecDepth 100000
set_option maxHeartbeats 4000000
namespace Go.Vk
open Go.Proofs (Tryz.prog)
/-- So many decimal digits, as bytes, the highest first. -/
def pad : Nat → Nat → List Nat
  | 0, _ => []
  | k + 1, x => pad k (x / 10) ++ [48 + x % 10]
theorem pad_length : ∀ k x, (pad k x).length = k
  | 0, _ => rfl
  | k + 1, x => by simp [pad, pad_length k]
theorem pad_add : ∀ (a b x : Nat), pad (a + b) x = pad a (x / 10 ^ b) ++ pad b x
  | a, 0, x => by simp [pad]
  | a, b + 1, x => by
    rw [← Nat.add_assoc]
    simp only [pad]
    rw [pad_add a b, Nat.div_div_eq_div_mul, Nat.pow_succ, Nat.mul_comm 10, List.append_assoc]
def decF : Nat → Nat → List Nat → List Nat
  | 0, _, acc => acc
  | f + 1, n, acc => if n < 10 then (48 + n) :: acc else decF f (n / 10) ((48 + n % 10) :: acc)
/-- A number's text. -/
def dec (n : Nat) : List Nat := decF (n + 1) n []
theorem decF_pad : ∀ (f n : Nat) (acc : List Nat) (k : Nat), n < f → 0 < k → n < 10 ^ k → (k = 1 ∨ 10 ^ (k - 1) ≤ n) → decF f n acc = pad k n ++ acc
  | 0, n, acc, k, h, _, _, _ => by omega
  | f + 1, n, acc, k, h, hk, h1, h2 => by
    simp only [decF]
    obtain ⟨j, rfl⟩ : ∃ j, k = j + 1 := ⟨k - 1, by omega⟩
    by_cases hn : n < 10
    · rw [if_pos hn]
      have hj : j = 0 := by
        rcases h2 with h2 | h2
        · omega
        · rcases Nat.eq_zero_or_pos j with h3 | h3
          · exact h3
          · exfalso
            have : 10 ^ 1 ≤ 10 ^ (j + 1 - 1) := Nat.pow_le_pow_right (by omega) (by omega)
            omega
      subst hj
      simp [pad, Nat.mod_eq_of_lt hn]
    · rw [if_neg hn]
      have hj : 0 < j := by
        rcases Nat.eq_zero_or_pos j with h3 | h3
        · subst h3; simp at h1; omega
        · exact h3
      have h2' : 10 ^ j ≤ n := by
        rcases h2 with h2 | h2
        · omega
        · simpa using h2
      obtain ⟨i, rfl⟩ : ∃ i, j = i + 1 := ⟨j - 1, by omega⟩
      rw [decF_pad f (n / 10) _ (i + 1) (by omega) (by omega) (by rw [Nat.pow_succ] at h1; omega) ?_]
      · simp [pad]
      · right
        rw [Nat.pow_succ] at h2'
        simp only [Nat.add_sub_cancel]
        omega
theorem dec_pad {n k : Nat} (hk : 0 < k) (h1 : n < 10 ^ k) (h2 : k = 1 ∨ 10 ^ (k - 1) ≤ n) : dec n = pad k n := by
  unfold dec
  rw [decF_pad _ _ _ k (Nat.lt_succ_self n) hk h1 h2, List.append_nil]
def smallsL : List Nat := ((List.range 100).map fun i => [48 + i / 10, 48 + i % 10]).flatten
theorem smalls_eq : bytesOf ({ data := ((([48, 48, 48, 49, 48, 50, 48, 51, 48, 52, 48, 53, 48, 54, 48, 55, 48, 56, 48, 57, 49, 48, 49, 49, 49, 50, 49, 51, 49, 52, 49, 53, 49, 54, 49, 55, 49, 56, 49, 57, 50, 48, 50, 49, 50, 50, 50, 51, 50, 52]).append ([50, 53, 50, 54, 50, 55, 50, 56, 50, 57, 51, 48, 51, 49, 51, 50, 51, 51, 51, 52, 51, 53, 51, 54, 51, 55, 51, 56, 51, 57, 52, 48, 52, 49, 52, 50, 52, 51, 52, 52, 52, 53, 52, 54, 52, 55, 52, 56, 52, 57])).append (([53, 48, 53, 49, 53, 50, 53, 51, 53, 52, 53, 53, 53, 54, 53, 55, 53, 56, 53, 57, 54, 48, 54, 49, 54, 50, 54, 51, 54, 52, 54, 53, 54, 54, 54, 55, 54, 56, 54, 57, 55, 48, 55, 49, 55, 50, 55, 51, 55, 52]).append ([55, 53, 55, 54, 55, 55, 55, 56, 55, 57, 56, 48, 56, 49, 56, 50, 56, 51, 56, 52, 56, 53, 56, 54, 56, 55, 56, 56, 56, 57, 57, 48, 57, 49, 57, 50, 57, 51, 57, 52, 57, 53, 57, 54, 57, 55, 57, 56, 57, 57]))).toArray } : ByteArray) = smallsL := by decide
theorem smalls_len : smallsL.length = 200 := by decide
theorem smalls_hi {r : Nat} (hr : r < 100) : smallsL[2 * r]? = some (48 + r / 10) := by
  have : ∀ r, r < 100 → smallsL[2 * r]? = some (48 + r / 10) := by decide
  exact this r hr
theorem smalls_lo {r : Nat} (hr : r < 100) : smallsL[2 * r + 1]? = some (48 + r % 10) := by
  have : ∀ r, r < 100 → smallsL[2 * r + 1]? = some (48 + r % 10) := by decide
  exact this r hr
def digitsL : List Nat := (List.range 10).map (48 + ·) ++ (List.range 26).map (97 + ·)
theorem digitsL_eq : bytesOf ({ data := #[48, 49, 50, 51, 52, 53, 54, 55, 56, 57, 97, 98, 99, 100, 101, 102, 103, 104, 105, 106, 107, 108, 109, 110, 111, 112, 113, 114, 115, 116, 117, 118, 119, 120, 121, 122] } : ByteArray) = digitsL := by decide
/-- The table of the powers of ten. -/
def pow10L : List AV := (List.range 20).map fun i => .int .u64 ((10 ^ i : Nat) : Int)
def u8s (ds : List Nat) : List AV := ds.map fun (d : Nat) => AV.int .u8 (d : Int)
theorem putCells_u8 {h : Hp} {ob : Nat} {out : List Nat} (hb : h.m.get ob = some (.row (u8s out) false)) {i x : Nat} (hi : i < out.length) :
    putCells h ob (0 + i * 1) [.int .u8 (x : Int)] = some { h with m := h.m.set ob (.row (u8s (out.set i x)) false) } := by
  unfold putCells
  rw [hb]
  simp only [Nat.zero_add, Nat.mul_one]
  rw [if_pos ⟨by simp [u8s]; omega, by simp [AV.one]⟩]
  congr 3
  unfold u8s
  simp only [List.map_set, Blk.row.injEq, and_true]
  rw [List.set_eq_take_append_cons_drop, if_pos (by simpa using hi)]
  simp
/-- Two digits written in front of those that are there. -/
theorem pair_inv {out : List Nat} {k j x y : Nat} (hl : k ≤ out.length) (hj : j + 2 ≤ k) (hy : y = x / 10 ^ (k - (j + 2))) (h : (out.drop (j + 2)).take (k - (j + 2)) = pad (k - (j + 2)) x) :
    (((out.set (j + 1) (48 + y % 10)).set j (48 + y / 10 % 10)).drop j).take (k - j) = pad (k - j) x := by
  have e1 : k - j = 2 + (k - (j + 2)) := by omega
  rw [e1, pad_add, ← hy, ← h]
  have e2 : ((out.set (j + 1) (48 + y % 10)).set j (48 + y / 10 % 10)).drop j = (48 + y / 10 % 10) :: (48 + y % 10) :: out.drop (j + 2) := by
    rw [List.drop_eq_getElem_cons (by simp; omega), List.drop_eq_getElem_cons (by simp; omega)]
    simp only [List.getElem_set_self]
    rw [List.drop_set_of_lt (by omega), List.drop_set_of_lt (by omega)]
    simp
  rw [e2]
  simp [pad, show 2 + (k - (j + 2)) = (k - (j + 2)) + 1 + 1 by omega]
end Go.Vk
