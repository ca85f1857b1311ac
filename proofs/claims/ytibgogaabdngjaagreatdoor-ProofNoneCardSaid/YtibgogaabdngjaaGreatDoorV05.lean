/- Part of a proof. Numbers: comparing. Numbers: products. Numbers, however they are told; the first hooks. Numbers: the first hooks hold. Numbers: small ones made; differences. Numbers: differences. Numbers: divided by a digit. Numbers: shifted upward. Numbers: shifted downward. Numbers: shifted downward. -/
import Derived.Test.YtibgogaabdngjaaGreatDoorV04
set_option linter.unusedSimpArgs false
set_option linter.unusedVariables false
set_option maxRecDepth 100000
set_option maxHeartbeats 4000000
namespace Go.Vk
open Go.Proofs (Tryz.prog)
theorem fn_cmp : fnE Tryz.prog 92 = some ⟨(Go.Proofs.Tryz.f92.body).getD .skip, 36, [.tmp 4]⟩ := by kernel_rfl
theorem cmp_run {hk : Hooks} (B : Base hk) (hn : ∀ a h, hk 92 a h = none) {h : Hp} {va vb : AV} {da db ba bb : List Nat} (ha : NumAt h va da ba) (hb : NumAt h vb db bb) (sa : small da) (sb : small db)
    (la : da.length < 10000000000) (lb : db.length < 10000000000) :
    ExF Tryz.prog hk 92 [va, vb] h fun r' h1 => r' = .int .i64 (cmpN (digVal da) (digVal db)) ∧ h1.m = h.m := by
  obtain ⟨ra, ha1, ha2⟩ := ha
  obtain ⟨rb, hb1, hb2⟩ := hb
  refine ExF.body fn_cmp (hn _ _) (by simp) ?_
  simp only [Go.Proofs.Tryz.f92, Option.getD_some]
  have ca : ∀ m nx, callF Tryz.prog hk m 123 [va] ⟨h.m, nx⟩ = some (ra, ⟨h.m, nx⟩) := fun m nx => callF_hk (B.digits _ _ _ ha1)
  have cb : ∀ m nx, callF Tryz.prog hk m 123 [vb] ⟨h.m, nx⟩ = some (rb, ⟨h.m, nx⟩) := fun m nx => callF_hk (B.digits _ _ _ hb1)
  (repeat refine Ex.assoc ?_); refine Ex.step (m := 0) (by simp (config := {decide := true}) only [RS, Nat.reduceAdd]; rfl) ?_
  (repeat refine Ex.assoc ?_); refine Ex.step (m := 0) (by simp (config := {decide := true}) only [RS, Nat.reduceAdd, fn_digits, ca, cb]; rfl) ?_
  obtain ⟨N, hN⟩ : ∃ N, N = max da.length db.length := ⟨_, rfl⟩
  have hmx : IntKind.i64.wrap ((if (db.length : Int) > (da.length : Int) then (db.length : Int) else (da.length : Int)) - 1) = (N : Int) - 1 := by
    rw [wrap_i64] <;> split <;> omega
  (repeat refine Ex.assoc ?_); refine Ex.step (m := 0) (by simp (config := {decide := true}) only [RS, Nat.reduceAdd, ha2.len, hb2.len, maxA, hmx]; rfl) ?_
  refine Ex.cut (fun env h' => (∀ j, dig da j = dig db j) ∧ h'.m = h.m) (Ex.block ?_) ?_
  · refine Ex.loop (fun k env h' => k ≤ N ∧ (∀ j, k ≤ j → dig da j = dig db j) ∧ env.get 5 = some ra ∧ env.get 6 = some rb ∧ env.get 7 = some (.int .i64 ((k : Int) - 1)) ∧ h'.m = h.m) ?_ N _ _ ?_
    · rintro k env h' ⟨h1, h2, h3, h4, h5, h6⟩
      cases k with
      | zero =>
        (repeat refine Ex.assoc ?_); refine Ex.step (m := 0) (by simp (config := {decide := true}) only [RS, Nat.reduceAdd, h5, Int.natCast_zero]; rfl) ?_
        refine Ex.ifF (by simp (config := {decide := true}) only [RS, Nat.reduceAdd]) (Ex.exitS ?_)
        simp (config := {decide := true}) only [RS, Nat.reduceAdd]
        exact ⟨fun j => h2 j (by omega), h6⟩
      | succ k =>
        have e1 : (((k + 1 : Nat) : Int) - 1) = (k : Nat) := by omega
        have e2 : ((k : Nat) : Int) ≥ 0 := by omega
        rw [e1] at h5
        have cA : ∀ m nx, callF Tryz.prog hk m 133 [ra, .int .i64 k] ⟨h.m, nx⟩ = some (.int .u64 (dig da k : Nat), ⟨h.m, nx⟩) := fun m nx => callF_hk (B.at' _ _ _ _ (ha2.at sa k))
        have cB : ∀ m nx, callF Tryz.prog hk m 133 [rb, .int .i64 k] ⟨h.m, nx⟩ = some (.int .u64 (dig db k : Nat), ⟨h.m, nx⟩) := fun m nx => callF_hk (B.at' _ _ _ _ (hb2.at sb k))
        (repeat refine Ex.assoc ?_); refine Ex.step (m := 0) (by simp (config := {decide := true}) only [RS, Nat.reduceAdd, h5, e2]; rfl) ?_
        refine Ex.ifT (by simp (config := {decide := true}) only [RS, Nat.reduceAdd]) (Ex.skipS ?_)
        refine Ex.seq (Ex.block ?_)
        (repeat refine Ex.assoc ?_); refine Ex.step (m := 0) (by simp (config := {decide := true}) only [RS, Nat.reduceAdd, fn_at, h3, h4, h5, h6, cA, cB]; rfl) ?_
        (repeat refine Ex.assoc ?_); refine Ex.step (m := 0) (by simp (config := {decide := true}) only [RS, Nat.reduceAdd]; rfl) ?_
        by_cases hz : dig da k = dig db k
        · have hz' : ((dig da k : Int) == (dig db k : Int)) = true := i_eq (by omega)
          refine Ex.cond_false (by simp (config := {decide := true}) only [RS, Nat.reduceAdd, hz']) (Ex.skip ?_)
          simp (config := {decide := true}) only [RS, Nat.reduceAdd]
          have e3 : IntKind.i64.wrap (((k : Nat) : Int) - 1) = (k : Int) - 1 := by rw [wrap_i64] <;> omega
          refine Ex.last (m := 0) (by simp (config := {decide := true}) only [RS, Nat.reduceAdd, h5, e3]; rfl) ?_
          simp (config := {decide := true}) only [thenK, blockK, ite_true, ite_false, if_true, if_false]
          refine ⟨k, Nat.lt_succ_self k, by omega, fun j hj => ?_, by simp (config := {decide := true}) only [RS, Nat.reduceAdd, h3], by simp (config := {decide := true}) only [RS, Nat.reduceAdd, h4], by simp (config := {decide := true}) only [RS, Nat.reduceAdd], trivial⟩
          rcases Nat.eq_or_lt_of_le hj with e | e
          · subst e; exact hz
          · exact h2 j e
        · have hz' : ((dig da k : Int) == (dig db k : Int)) = false := i_ne (by omega)
          refine Ex.cond_true (by simp (config := {decide := true}) only [RS, Nat.reduceAdd, hz']) ?_
          (repeat refine Ex.assoc ?_); refine Ex.step (m := 0) (by simp (config := {decide := true}) only [RS, Nat.reduceAdd]; rfl) ?_
          by_cases hl : dig da k < dig db k
          · have hl' : ((dig da k : Nat) : Int) < ((dig db k : Nat) : Int) := by omega
            refine Ex.ifT (by simp (config := {decide := true}) only [RS, Nat.reduceAdd, hl']) ?_
            (repeat refine Ex.assoc ?_); refine Ex.step (m := 0) (by simp (config := {decide := true}) only [RS, Nat.reduceAdd]; rfl) ?_
            refine Ex.retS ?_
            simp (config := {decide := true}) only [RS, Nat.reduceAdd]
            refine ⟨_, rfl, ?_⟩
            have := dig_less sa sb (fun j hj => h2 j hj) hl
            simp [cmpN, this]
          · have hl' : ¬ ((dig da k : Nat) : Int) < ((dig db k : Nat) : Int) := by omega
            refine Ex.ifF (by simp (config := {decide := true}) only [RS, Nat.reduceAdd, hl']) (Ex.skipS ?_)
            (repeat refine Ex.assoc ?_); refine Ex.step (m := 0) (by simp (config := {decide := true}) only [RS, Nat.reduceAdd]; rfl) ?_
            refine Ex.ret ?_
            simp (config := {decide := true}) only [RS, Nat.reduceAdd]
            refine ⟨_, rfl, ?_⟩
            have := dig_less sb sa (fun j hj => (h2 j hj).symm) (by omega : dig db k < dig da k)
            simp [cmpN, this, Nat.lt_asymm this]
    · refine ⟨Nat.le_refl _, fun j hj => ?_, by simp (config := {decide := true}) only [RS, Nat.reduceAdd], by simp (config := {decide := true}) only [RS, Nat.reduceAdd], by simp (config := {decide := true}) only [RS, Nat.reduceAdd], rfl⟩
      rw [dig_above (by omega), dig_above (by omega)]
  · rintro env h' ⟨h1, h2⟩
    (repeat refine Ex.assoc ?_); refine Ex.step (m := 0) (by simp (config := {decide := true}) only [RS, Nat.reduceAdd]; rfl) ?_
    refine Ex.ret ⟨trivial, _, by simp (config := {decide := true}) only [RS, Nat.reduceAdd]; rfl, ?_, h2⟩
    simp (config := {decide := true}) only [RS, Nat.reduceAdd]
    simp [cmpN, dig_equal h1]
end Go.Vk
set_option linter.unusedSimpArgs false
set_option linter.unusedVariables false
set_option maxRecDepth 100000
set_option maxHeartbeats 4000000
namespace Go.Vk
open Go.Proofs (Tryz.prog)
theorem DigAt.slice {h : Hp} {sl : AV} {ds bs : List Nat} (hd : DigAt h sl ds bs) {i : Nat} (hi : i < ds.length) : ∃ rb off cap ex, sl = .slice rb off ds.length cap ex 1 ∧ ∀ nx, getCells ⟨h.m, nx⟩ rb (off + i * 1) 1 = some [.int .u32 (dig ds i : Nat)] := by
  rcases hd with ⟨rfl, _⟩ | ⟨rb, off, cap, ex, _, rfl, hg, _⟩
  · simp at hi
  · exact ⟨rb, off, cap, ex, rfl, fun nx => by rw [Nat.mul_one]; exact u32s_get (h := ⟨h.m, nx⟩) hi hg⟩
theorem DigAt.fresh {h : Hp} (hf : h.fr) {sl : AV} {ds bs : List Nat} (hd : DigAt h sl ds bs) {b : Nat} (hb : b ∈ bs) : b < h.nx := by
  rcases hd with ⟨_, rfl, _⟩ | ⟨rb, off, cap, ex, rfl, _, hg, _⟩
  · cases hb
  · simp only [List.mem_singleton] at hb; subst hb
    obtain ⟨all, ro, h0, _⟩ := getCells_some hg
    rcases Nat.lt_or_ge b h.nx with h1 | h1
    · exact h1
    · rw [hf b h1] at h0; cases h0
theorem row_get {h : Hp} {ob : Nat} {out : List Nat} (hb : h.m.get ob = some (.row (u32s out) false)) {i : Nat} (hi : i < out.length) : getCells h ob (0 + i * 1) 1 = some [.int .u32 (dig out i : Nat)] := by
  rw [Nat.mul_one]
  refine u32s_get hi ?_
  unfold getCells
  rw [hb]
  simp only
  rw [if_pos (by simp [u32s])]
  simp only [List.drop_zero]
  rw [List.take_of_length_le (by simp [u32s])]
theorem dig_set {ds : List Nat} {i j x : Nat} (h : i ≠ j) : dig (ds.set i x) j = dig ds j := by
  unfold dig; rw [List.getD_eq_getElem?_getD, List.getD_eq_getElem?_getD, List.getElem?_set_ne h]
theorem take_same {a b : List Nat} (hl : a.length = b.length) : ∀ {m : Nat}, (∀ j, j < m → dig a j = dig b j) → digVal (a.take m) = digVal (b.take m)
  | 0, _ => by simp
  | m + 1, h => by rw [digVal_take_succ, digVal_take_succ, take_same hl (fun j hj => h j (by omega)), h m (by omega)]
theorem shr32 {s : Nat} : ((s : Nat) : Int).fdiv (2 ^ (min (Int.toNat 32) (IntKind.bits .u64))) = ((s / 4294967296 : Nat) : Int) := by
  rw [show (2 ^ (min (Int.toNat 32) (IntKind.bits .u64)) : Int) = ((4294967296 : Nat) : Int) by decide]
  rw [Int.fdiv_eq_ediv_of_nonneg _ (by omega)]; rfl

theorem fn_mul : fnE Tryz.prog 94 = some ⟨(Go.Proofs.Tryz.f94.body).getD .skip, 73, [.tmp 4]⟩ := by kernel_rfl
theorem mul_run {hk : Hooks} (B : Base hk) (hn : ∀ a h, hk 94 a h = none) {h : Hp} (hf : h.fr) {va vb : AV} {da db ba bb : List Nat} (ha : NumAt h va da ba) (hb : NumAt h vb db bb) (sa : small da) (sb : small db)
    (la : da.length < 10000000000) (lb : db.length < 10000000000) :
    ExF Tryz.prog hk 94 [va, vb] h fun r' h1 => Made h h1 r' (digVal da * digVal db) [] := by
  obtain ⟨ra, ha1, ha2⟩ := ha
  obtain ⟨rb, hb1, hb2⟩ := hb
  refine ExF.body fn_mul (hn _ _) (by simp) ?_
  simp only [Go.Proofs.Tryz.f94, Option.getD_some]
  have ca : ∀ m nx, callF Tryz.prog hk m 123 [va] ⟨h.m, nx⟩ = some (ra, ⟨h.m, nx⟩) := fun m nx => callF_hk (B.digits _ _ _ ha1)
  have cb : ∀ m nx, callF Tryz.prog hk m 123 [vb] ⟨h.m, nx⟩ = some (rb, ⟨h.m, nx⟩) := fun m nx => callF_hk (B.digits _ _ _ hb1)
  (repeat refine Ex.assoc ?_); refine Ex.step (m := 0) (by simp (config := {decide := true}) only [RS, Nat.reduceAdd]; rfl) ?_
  (repeat refine Ex.assoc ?_); refine Ex.step (m := 0) (by simp (config := {decide := true}) only [RS, Nat.reduceAdd, fn_digits, ca, cb]; rfl) ?_
  have hfr : h.m.get (h.nx + 12) = none := hf _ (by omega)
  obtain ⟨N, hN⟩ : ∃ N, N = da.length + db.length := ⟨_, rfl⟩
  have hmx : IntKind.i64.wrap ((da.length : Int) + (db.length : Int)) = (N : Int) := by
    rw [wrap_i64] <;> omega
  have hmk : ∀ id, _ := fun id => mk_u32 id N (by have hm : most = 1099511627776 := rfl; omega)
  (repeat refine Ex.assoc ?_); refine Ex.step (m := 0) (by simp (config := {decide := true}) only [RS, Nat.reduceAdd, ha2.len, hb2.len, hmx, hmk, fresh, hfr]; rfl) ?_
  (repeat refine Ex.assoc ?_); refine Ex.step (m := 0) (by simp (config := {decide := true}) only [RS, Nat.reduceAdd, ha2.len]; rfl) ?_
  have hne : ∀ b ∈ ba, b ≠ h.nx + 12 := fun b hb => by have := ha2.fresh hf hb; omega
  have hne' : ∀ b ∈ bb, b ≠ h.nx + 12 := fun b hb => by have := hb2.fresh hf hb; omega
  have hrow : ∀ {h' : Hp} {out : List Nat}, (∀ b, h'.m.get b = if b = h.nx + 12 then some (.row (u32s out) false) else h.m.get b) → DigAt h' ra da ba ∧ DigAt h' rb db bb := fun hh =>
    ⟨ha2.ext fun b hb => by rw [hh, if_neg (hne b hb)], hb2.ext fun b hb => by rw [hh, if_neg (hne' b hb)]⟩
  refine Ex.cut (fun env h' => ∃ out : List Nat, out.length = N ∧ small out ∧ digVal out = digVal da * digVal db ∧ env.get 7 = some (.slice (h.nx + 12) 0 N N true 1) ∧ h.nx + 14 ≤ h'.nx ∧ ∀ b, h'.m.get b = if b = h.nx + 12 then some (.row (u32s out) false) else h.m.get b) (Ex.block ?_) ?_
  · refine Ex.loop (fun j env h' => ∃ (i : Nat) (out : List Nat), j = da.length - i ∧ i ≤ da.length ∧ out.length = N ∧ small out ∧ digVal (out.take (i + db.length)) = digVal (da.take i) * digVal db ∧
      env.get 6 = some rb ∧ env.get 7 = some (.slice (h.nx + 12) 0 N N true 1) ∧ env.get 23 = some ra ∧ env.get 24 = some (.int .i64 da.length) ∧ env.get 25 = some (.int .i64 i) ∧
      h.nx + 14 ≤ h'.nx ∧ ∀ b, h'.m.get b = if b = h.nx + 12 then some (.row (u32s out) false) else h.m.get b) ?_ da.length _ _ ?_
    · rintro j env h' ⟨i, out, rfl, h1, h2, h3, h4, g6, g7, g23, g24, g25, h5, h6⟩
      (repeat refine Ex.assoc ?_); refine Ex.step (m := 0) (by simp (config := {decide := true}) only [RS, Nat.reduceAdd, g24, g25]; rfl) ?_
      by_cases hi : i < da.length
      · have hi1 : ((i : Nat) : Int) < (da.length : Int) := by omega
        refine Ex.ifT (by simp (config := {decide := true}) only [RS, Nat.reduceAdd, hi1]) (Ex.skipS ?_)
        refine Ex.seq (Ex.block ?_)
        obtain ⟨da', db'⟩ := hrow h6
        obtain ⟨ab, ao, ac, ae, rfl, hga⟩ := da'.slice hi
        have e3 : (0 ≤ ((i : Nat) : Int) ∧ ((i : Nat) : Int) < (da.length : Int)) := by omega
        (repeat refine Ex.assoc ?_); refine Ex.step (m := 0) (by simp (config := {decide := true}) only [RS, Nat.reduceAdd, g23, g25, tSl, tU32, hU32, sU32, aU32, e3, Int.toNat_natCast, hga]; rfl) ?_
        (repeat refine Ex.assoc ?_); refine Ex.step (m := 0) (by simp (config := {decide := true}) only [RS, Nat.reduceAdd]; rfl) ?_
        (repeat refine Ex.assoc ?_); refine Ex.step (m := 0) (by simp (config := {decide := true}) only [RS, Nat.reduceAdd, g6, db'.len]; rfl) ?_
        have lx := dig_lt sa i
        obtain ⟨x, hx⟩ : ∃ x, x = dig da i := ⟨_, rfl⟩
        rw [← hx] at lx
        refine Ex.cut (fun env h' => ∃ (out1 : List Nat) (sum : Nat), out1.length = N ∧ small out1 ∧ sum < 4294967296 ∧ digVal (out1.take (i + db.length)) + 4294967296 ^ (i + db.length) * sum = digVal (out.take (i + db.length)) + 4294967296 ^ i * x * digVal db ∧
          env.get 6 = some rb ∧ env.get 7 = some (.slice (h.nx + 12) 0 N N true 1) ∧ env.get 8 = some (.int .i64 i) ∧ env.get 10 = some (.int .u64 sum) ∧ env.get 23 = some (.slice ab ao da.length ac ae 1) ∧ env.get 24 = some (.int .i64 da.length) ∧ env.get 25 = some (.int .i64 i) ∧
          h.nx + 14 ≤ h'.nx ∧ ∀ b, h'.m.get b = if b = h.nx + 12 then some (.row (u32s out1) false) else h.m.get b) (Ex.block ?_) ?_
        · refine Ex.loop (fun j env h' => ∃ (k sum : Nat) (out1 : List Nat), j = db.length - k ∧ k ≤ db.length ∧ out1.length = N ∧ small out1 ∧ sum < 4294967296 ∧
            digVal (out1.take (i + k)) + 4294967296 ^ (i + k) * sum = digVal (out.take (i + k)) + 4294967296 ^ i * x * digVal (db.take k) ∧ (∀ j, i + k ≤ j → dig out1 j = dig out j) ∧
            env.get 6 = some rb ∧ env.get 7 = some (.slice (h.nx + 12) 0 N N true 1) ∧ env.get 8 = some (.int .i64 i) ∧ env.get 9 = some (.int .u32 x) ∧ env.get 10 = some (.int .u64 sum) ∧ env.get 23 = some (.slice ab ao da.length ac ae 1) ∧ env.get 24 = some (.int .i64 da.length) ∧ env.get 25 = some (.int .i64 i) ∧
            env.get 30 = some rb ∧ env.get 31 = some (.int .i64 db.length) ∧ env.get 32 = some (.int .i64 k) ∧
            h.nx + 14 ≤ h'.nx ∧ ∀ b, h'.m.get b = if b = h.nx + 12 then some (.row (u32s out1) false) else h.m.get b) ?_ db.length _ _ ?_
          · rintro j env h' ⟨k, sum, out1, rfl, q1, q2, q3, q4, q5, q6, f6, f7, f8, f9, f10, f23, f24, f25, f30, f31, f32, q7, q8⟩
            (repeat refine Ex.assoc ?_); refine Ex.step (m := 0) (by simp (config := {decide := true}) only [RS, Nat.reduceAdd, f31, f32]; rfl) ?_
            by_cases hk' : k < db.length
            · have hk1 : ((k : Nat) : Int) < (db.length : Int) := by omega
              refine Ex.ifT (by simp (config := {decide := true}) only [RS, Nat.reduceAdd, hk1]) (Ex.skipS ?_)
              refine Ex.seq (Ex.block ?_)
              obtain ⟨_, db''⟩ := hrow q8
              obtain ⟨bb', bo, bc, be, rfl, hgb⟩ := db''.slice hk'
              have e4 : (0 ≤ ((k : Nat) : Int) ∧ ((k : Nat) : Int) < (db.length : Int)) := by omega
              (repeat refine Ex.assoc ?_); refine Ex.step (m := 0) (by simp (config := {decide := true}) only [RS, Nat.reduceAdd, f30, f32, tSl, tU32, hU32, sU32, aU32, e4, Int.toNat_natCast, hgb]; rfl) ?_
              have ly := dig_lt sb k
              obtain ⟨y, hy⟩ : ∃ y, y = dig db k := ⟨_, rfl⟩
              rw [← hy] at ly
              have lo := dig_lt q3 (i + k)
              obtain ⟨o, ho⟩ : ∃ o, o = dig out1 (i + k) := ⟨_, rfl⟩
              have hgo : ∀ nx, getCells ⟨h'.m, nx⟩ (h.nx + 12) (0 + (i + k) * 1) 1 = some [.int .u32 (o : Nat)] := fun nx => by
                rw [ho]; exact row_get (h := ⟨h'.m, nx⟩) (by simp only [q8, if_true]) (by omega)
              rw [← ho] at lo
              have hxy : x * y ≤ 4294967295 * 4294967295 := Nat.mul_le_mul (by omega) (by omega)
              obtain ⟨p, hp⟩ : ∃ p, p = x * y := ⟨_, rfl⟩
              rw [← hp] at hxy
              have w0 : IntKind.u64.wrap ((x : Nat) : Int) = x := by rw [wrap_u64] <;> omega
              have w1 : IntKind.u64.wrap ((y : Nat) : Int) = y := by rw [wrap_u64] <;> omega
              have w2 : IntKind.u64.wrap (((x : Nat) : Int) * ((y : Nat) : Int)) = (p : Nat) := by
                have : ((x : Nat) : Int) * ((y : Nat) : Int) = (p : Nat) := by rw [hp]; simp
                rw [this, wrap_u64] <;> omega
              have w3 : IntKind.i64.wrap (((i : Nat) : Int) + ((k : Nat) : Int)) = ((i + k : Nat) : Int) := by rw [wrap_i64] <;> omega
              have w4 : IntKind.u64.wrap ((o : Nat) : Int) = o := by rw [wrap_u64] <;> omega
              have w5 : IntKind.u64.wrap (((p : Nat) : Int) + ((o : Nat) : Int)) = ((p + o : Nat) : Int) := by rw [wrap_u64] <;> omega
              obtain ⟨s, hs⟩ : ∃ s, s = sum + (p + o) := ⟨_, rfl⟩
              have w6 : IntKind.u64.wrap (((sum : Nat) : Int) + ((p + o : Nat) : Int)) = (s : Nat) := by rw [wrap_u64] <;> omega
              have w7 : IntKind.u32.wrap ((s : Nat) : Int) = ((s % 4294967296 : Nat) : Int) := by rw [wrap_u32]; omega
              have e5 : (0 ≤ ((i + k : Nat) : Int) ∧ ((i + k : Nat) : Int) < (N : Int)) := by omega
              (repeat refine Ex.assoc ?_); refine Ex.step (m := 0) (by simp (config := {decide := true}) only [RS, Nat.reduceAdd, f7, f8, f9, f10, ← hy, tSl, tU32, tU64, hU32, sU32, aU32, w0, w1, w2, w3, w4, w5, w6, e5, Int.toNat_natCast, hgo]; rfl) ?_
              have hpt : ∀ nx, putCells ⟨h'.m, nx⟩ (h.nx + 12) (0 + (i + k) * 1) [.int .u32 ((s % 4294967296 : Nat) : Int)] = some ⟨h'.m.set (h.nx + 12) (.row (u32s (out1.set (i + k) (s % 4294967296))) false), nx⟩ := fun nx =>
                putCells_u32 (h := ⟨h'.m, nx⟩) (by simp only [q8, if_true]) (by omega)
              (repeat refine Ex.assoc ?_); refine Ex.step (m := 0) (by simp (config := {decide := true}) only [RS, Nat.reduceAdd, f7, f8, w3, w7, tSl, tU32, tU64, hU32, sU32, e5, Int.toNat_natCast, hpt]; rfl) ?_
              refine Ex.last (m := 0) (by simp (config := {decide := true}) only [RS, Nat.reduceAdd, shr32]; rfl) ?_
              simp (config := {decide := true}) only [thenK, blockK, ite_true, ite_false, if_true, if_false]
              have w8 : IntKind.i64.wrap (((k : Nat) : Int) + 1) = ((k + 1 : Nat) : Int) := by rw [wrap_i64] <;> omega
              refine Ex.last (m := 0) (by simp (config := {decide := true}) only [RS, Nat.reduceAdd, f32, w8]; rfl) ?_
              simp (config := {decide := true}) only [thenK, blockK, ite_true, ite_false, if_true, if_false]
              refine ⟨db.length - (k + 1), by omega, k + 1, s / 4294967296, out1.set (i + k) (s % 4294967296), rfl, by omega, by simpa using q2, small_set q3 (by omega) _, by omega, ?_, fun j hj => ?_, by simp (config := {decide := true}) only [RS, Nat.reduceAdd, f6], by simp (config := {decide := true}) only [RS, Nat.reduceAdd, f7], by simp (config := {decide := true}) only [RS, Nat.reduceAdd, f8], by simp (config := {decide := true}) only [RS, Nat.reduceAdd, f9], by simp (config := {decide := true}) only [RS, Nat.reduceAdd], by simp (config := {decide := true}) only [RS, Nat.reduceAdd, f23], by simp (config := {decide := true}) only [RS, Nat.reduceAdd, f24], by simp (config := {decide := true}) only [RS, Nat.reduceAdd, f25], by simp (config := {decide := true}) only [RS, Nat.reduceAdd, f30], by simp (config := {decide := true}) only [RS, Nat.reduceAdd, f31], by simp (config := {decide := true}) only [RS, Nat.reduceAdd], (by first | omega | (simp only [Nat.add_assoc]; omega) | (dsimp only; omega)), fun b => ?_⟩
              · rw [show i + (k + 1) = (i + k) + 1 by omega, take_set (by omega), digVal_append, digVal_take_succ, digVal_take_succ, List.length_take, Nat.min_eq_left (by omega), Nat.pow_succ, ← hy]
                simp only [digVal, Nat.mul_zero, Nat.add_zero]
                have hm : s % 4294967296 + 4294967296 * (s / 4294967296) = s := Nat.mod_add_div s 4294967296
                have t1 : 4294967296 ^ (i + k) * (s % 4294967296) + 4294967296 ^ (i + k) * 4294967296 * (s / 4294967296) = 4294967296 ^ (i + k) * s := by
                  rw [Nat.mul_assoc, ← Nat.mul_add, hm]
                have t2 : 4294967296 ^ (i + k) * s = 4294967296 ^ (i + k) * sum + (4294967296 ^ (i + k) * p + 4294967296 ^ (i + k) * o) := by
                  rw [hs, Nat.mul_add, Nat.mul_add]
                have t3 : 4294967296 ^ i * x * (digVal (db.take k) + 4294967296 ^ k * y) = 4294967296 ^ i * x * digVal (db.take k) + 4294967296 ^ (i + k) * p := by
                  rw [Nat.mul_add, hp, Nat.pow_add]
                  congr 1
                  rw [Nat.mul_assoc, Nat.mul_assoc]
                  congr 1
                  rw [← Nat.mul_assoc, Nat.mul_comm x, Nat.mul_assoc]
                have t4 : dig out (i + k) = o := by rw [ho]; exact (q6 _ (Nat.le_refl _)).symm
                rw [t3, t4]
                omega
              · rw [dig_set (by omega)]; exact q6 j (by omega)
              · simp only [PT.get_set, q8]
                split <;> rfl
            · have hk1 : ¬ ((k : Nat) : Int) < (db.length : Int) := by omega
              refine Ex.ifF (by simp (config := {decide := true}) only [RS, Nat.reduceAdd, hk1]) (Ex.exitS ?_)
              simp (config := {decide := true}) only [thenK, blockK, ite_true, ite_false, if_true, if_false]
              have hkN : k = db.length := by omega
              subst hkN
              refine ⟨out1, sum, q2, q3, q4, ?_, by simp (config := {decide := true}) only [RS, Nat.reduceAdd, f6], by simp (config := {decide := true}) only [RS, Nat.reduceAdd, f7], by simp (config := {decide := true}) only [RS, Nat.reduceAdd, f8], by simp (config := {decide := true}) only [RS, Nat.reduceAdd, f10], by simp (config := {decide := true}) only [RS, Nat.reduceAdd, f23], by simp (config := {decide := true}) only [RS, Nat.reduceAdd, f24], by simp (config := {decide := true}) only [RS, Nat.reduceAdd, f25], (by first | omega | (simp only [Nat.add_assoc]; omega) | (dsimp only; omega)), q8⟩
              rw [List.take_length] at q5
              exact q5
          · refine ⟨0, 0, out, rfl, by omega, h2, h3, by omega, by simp [digVal], fun _ _ => rfl, by simp (config := {decide := true}) only [RS, Nat.reduceAdd, g6], by simp (config := {decide := true}) only [RS, Nat.reduceAdd, g7], by simp (config := {decide := true}) only [RS, Nat.reduceAdd], by simp (config := {decide := true}) only [RS, Nat.reduceAdd, hx], by simp (config := {decide := true}) only [RS, Nat.reduceAdd]; rfl, by simp (config := {decide := true}) only [RS, Nat.reduceAdd, g23], by simp (config := {decide := true}) only [RS, Nat.reduceAdd, g24], by simp (config := {decide := true}) only [RS, Nat.reduceAdd, g25], by simp (config := {decide := true}) only [RS, Nat.reduceAdd], by simp (config := {decide := true}) only [RS, Nat.reduceAdd], by simp (config := {decide := true}) only [RS, Nat.reduceAdd]; rfl, (by first | omega | (simp only [Nat.add_assoc]; omega) | (dsimp only; omega)), h6⟩
        · rintro env h' ⟨out1, sum, q2, q3, q4, q5, f6, f7, f8, f10, f23, f24, f25, q7, q8⟩
          obtain ⟨_, db''⟩ := hrow q8
          have w3 : IntKind.i64.wrap (((i : Nat) : Int) + ((db.length : Nat) : Int)) = ((i + db.length : Nat) : Int) := by rw [wrap_i64] <;> omega
          have w7 : IntKind.u32.wrap ((sum : Nat) : Int) = ((sum : Nat) : Int) := by rw [wrap_u32]; omega
          have e5 : (0 ≤ ((i + db.length : Nat) : Int) ∧ ((i + db.length : Nat) : Int) < (N : Int)) := by omega
          have hpt : ∀ nx, putCells ⟨h'.m, nx⟩ (h.nx + 12) (0 + (i + db.length) * 1) [.int .u32 (sum : Int)] = some ⟨h'.m.set (h.nx + 12) (.row (u32s (out1.set (i + db.length) sum)) false), nx⟩ := fun nx =>
            putCells_u32 (h := ⟨h'.m, nx⟩) (by simp only [q8, if_true]) (by omega)
          refine Ex.last (m := 0) (by simp (config := {decide := true}) only [RS, Nat.reduceAdd, f6, f7, f8, f10, db''.len, w3, w7, tSl, tU32, tU64, hU32, sU32, e5, Int.toNat_natCast, hpt]; rfl) ?_
          simp (config := {decide := true}) only [thenK, blockK, ite_true, ite_false, if_true, if_false]
          have w8 : IntKind.i64.wrap (((i : Nat) : Int) + 1) = ((i + 1 : Nat) : Int) := by rw [wrap_i64] <;> omega
          refine Ex.last (m := 0) (by simp (config := {decide := true}) only [RS, Nat.reduceAdd, f25, w8]; rfl) ?_
          simp (config := {decide := true}) only [thenK, blockK, ite_true, ite_false, if_true, if_false]
          refine ⟨da.length - (i + 1), by omega, i + 1, out1.set (i + db.length) sum, rfl, by omega, by simpa using q2, small_set q3 q4 _, ?_, by simp (config := {decide := true}) only [RS, Nat.reduceAdd, f6], by simp (config := {decide := true}) only [RS, Nat.reduceAdd, f7], by simp (config := {decide := true}) only [RS, Nat.reduceAdd, f23], by simp (config := {decide := true}) only [RS, Nat.reduceAdd, f24], by simp (config := {decide := true}) only [RS, Nat.reduceAdd], (by first | omega | (simp only [Nat.add_assoc]; omega) | (dsimp only; omega)), fun b => ?_⟩
          · rw [show i + 1 + db.length = (i + db.length) + 1 by omega, take_set (by omega), digVal_append, digVal_take_succ, List.length_take, Nat.min_eq_left (by omega), ← hx, Nat.add_mul, ← h4]
            simp only [digVal, Nat.mul_zero, Nat.add_zero]
            exact q5
          · simp only [PT.get_set, q8]
            split <;> rfl
      · have hi1 : ¬ ((i : Nat) : Int) < (da.length : Int) := by omega
        refine Ex.ifF (by simp (config := {decide := true}) only [RS, Nat.reduceAdd, hi1]) (Ex.exitS ?_)
        simp (config := {decide := true}) only [thenK, blockK, ite_true, ite_false, if_true, if_false]
        have hiN : i = da.length := by omega
        subst hiN
        refine ⟨out, h2, h3, ?_, by simp (config := {decide := true}) only [RS, Nat.reduceAdd, g7], (by first | omega | (simp only [Nat.add_assoc]; omega) | (dsimp only; omega)), h6⟩
        rw [List.take_of_length_le (by omega), List.take_length] at h4
        exact h4
    · refine ⟨0, List.replicate N 0, rfl, by omega, by simp, small_rep N, ?_, by simp (config := {decide := true}) only [RS, Nat.reduceAdd], by simp (config := {decide := true}) only [RS, Nat.reduceAdd], by simp (config := {decide := true}) only [RS, Nat.reduceAdd], by simp (config := {decide := true}) only [RS, Nat.reduceAdd], by simp (config := {decide := true}) only [RS, Nat.reduceAdd]; rfl, (by first | omega | (simp only [Nat.add_assoc]; omega) | (dsimp only; omega)), ?_⟩
      · rw [List.take_replicate, digVal_rep]; simp [digVal]
      · intro b
        simp only [PT.get_set]
  · rintro env h' ⟨out, h1, h2, h3, h4, h5, h6⟩
    have hf' : h'.fr := fun b hb => by
      rw [h6, if_neg (by omega)]; exact hf b (by omega)
    have hgo : ∀ nx, getCells ⟨h'.m, nx⟩ (h.nx + 12) 0 out.length = some (u32s out) := fun nx => by
      unfold getCells
      simp only [h6, if_true]
      rw [if_pos (by simp [u32s])]
      simp only [List.drop_zero]
      rw [List.take_of_length_le (by simp [u32s])]
    obtain ⟨m, r', h1', q1, nb, rfl, q2, q3, q4⟩ := of_run B.of (h := ⟨h'.m, h'.nx + 3⟩) (fun b hb => hf' b (by simp only at hb; omega)) (b := h.nx + 12) (off := 0) (cap := N) (ex := true) (ds := out) (hgo _) (by omega) (by omega)
    rw [h1] at q1
    (repeat refine Ex.assoc ?_); refine Ex.step (m := m) (by simp (config := {decide := true}) only [RS, Nat.reduceAdd, h4, fn_of, q1]; rfl) ?_
    refine Ex.ret ⟨trivial, _, by simp (config := {decide := true}) only [RS, Nat.reduceAdd]; rfl, ?_⟩
    simp (config := {decide := true}) only [RS, Nat.reduceAdd]
    rw [← h3]
    refine made_of hf h2 (ob := h.nx + 12) (cap := N) (ex := true) (by omega) (by simp only at q2; omega) (by omega) (fun b => ?_)
    rw [q4]
    simp only [PT.get_set, h6]
end Go.Vk
set_option linter.unusedSimpArgs false
set_option linter.unusedVariables false
set_option maxRecDepth 100000
set_option maxHeartbeats 4000000
namespace Go.Vk
open Go.Proofs (Tryz.prog)

def u32val : List AV → Option (List Nat)
  | [] => some []
  | .int .u32 d :: r => if 0 ≤ d ∧ d < 4294967296 then match u32val r with
      | some l => some (d.toNat :: l)
      | none => none
    else none
  | _ => none
theorem u32val_u32s : ∀ {ds : List Nat}, small ds → u32val (u32s ds) = some ds
  | [], _ => rfl
  | d :: ds, h => by
    have hd := h d (List.mem_cons_self ..)
    simp only [u32s, List.map_cons, u32val]
    rw [if_pos (by omega)]
    have := u32val_u32s (ds := ds) fun x hx => h x (List.mem_cons_of_mem _ hx)
    unfold u32s at this
    rw [this]
    simp
theorem u32val_some : ∀ {cs : List AV} {ds : List Nat}, u32val cs = some ds → cs = u32s ds ∧ small ds
  | [], ds, h => by simp only [u32val, Option.some.injEq] at h; subst h; exact ⟨rfl, fun _ h => (by cases h)⟩
  | c :: cs, ds, h => by
    unfold u32val at h
    split at h
    · rename_i heq; cases heq
    · rename_i d r heq
      injection heq with e1 e2
      subst e1 e2
      split at h
      · rename_i hd
        split at h
        · rename_i l hl
          injection h with h; subst h
          obtain ⟨e, hs⟩ := u32val_some hl
          subst e
          refine ⟨by simp only [u32s, List.map_cons, List.cons.injEq, AV.int.injEq, true_and, and_true]; omega, fun x hx => ?_⟩
          rcases List.mem_cons.1 hx with rfl | hx
          · omega
          · exact hs x hx
        · cases h
      · cases h
    · cases h
/-- The digits of a number that lies open (or is nil). -/
def digsA (h : Hp) (v : AV) : Option (List Nat) := match digitsA h v with
  | some .nils => some []
  | some .empty => some []
  | some (.slice b off len cap _ 1) => if len ≤ cap ∧ len < 5000000000 then match getCells h b off len with
      | some cs => u32val cs
      | none => none
    else none
  | _ => none
def numA (h : Hp) : AV → Option Nat
  | .opq (.nat n) => if Nat.log2 n < 100000000000 then some n else none
  | v => match digsA h v with
    | some ds => some (digVal ds)
    | none => none
theorem digsA_at {h : Hp} {v : AV} {ds : List Nat} (hd : digsA h v = some ds) : small ds ∧ ds.length < 5000000000 ∧ ∃ bs, NumAt h v ds bs := by
  unfold digsA at hd
  split at hd
  · rename_i he; injection hd with hd; subst hd; exact ⟨fun _ h => (by cases h), (by simp), [], .nils, he, .inl ⟨rfl, rfl, .inl rfl⟩⟩
  · rename_i he; injection hd with hd; subst hd; exact ⟨fun _ h => (by cases h), (by simp), [], .empty, he, .inl ⟨rfl, rfl, .inr rfl⟩⟩
  · rename_i b off len cap ex he
    split at hd
    · rename_i hl
      split at hd
      · rename_i cs hg
        obtain ⟨rfl, hs⟩ := u32val_some hd
        have hlen := getCells_length hg
        have : len = ds.length := by simp [u32s] at hlen; exact hlen.symm
        subst this
        exact ⟨hs, hl.2, [b], _, he, .inr ⟨b, off, cap, ex, rfl, rfl, hg, hl.1⟩⟩
      · cases hd
    · cases hd
  · cases hd
theorem NumAt.digs {h : Hp} {v : AV} {ds bs : List Nat} (hn : NumAt h v ds bs) (hs : small ds) (hl : ds.length < 5000000000) : digsA h v = some ds := by
  obtain ⟨sl, h1, ⟨rfl, _, rfl | rfl⟩ | ⟨rb, off, cap, ex, _, rfl, hg, hc⟩⟩ := hn
  · unfold digsA; rw [h1]
  · unfold digsA; rw [h1]
  · unfold digsA; rw [h1]
    simp only
    rw [if_pos ⟨hc, hl⟩, hg]
    exact u32val_u32s hs
theorem digitsA_ptr {h : Hp} {v sl : AV} (hd : digitsA h v = some sl) : ∀ o, v ≠ .opq o := by
  rintro o rfl; simp [digitsA] at hd
theorem numA_open {h : Hp} {v : AV} (ho : ∀ o, v ≠ .opq o) : numA h v = (match digsA h v with | some ds => some (digVal ds) | none => none) := by
  unfold numA
  split
  · exact absurd rfl (ho _)
  · rfl
theorem NumAt.num {h : Hp} {v : AV} {ds bs : List Nat} (hn : NumAt h v ds bs) (hs : small ds) (hl : ds.length < 5000000000) : numA h v = some (digVal ds) := by
  have h0 := hn.digs hs hl
  obtain ⟨sl, h1, _⟩ := hn
  rw [numA_open (digitsA_ptr h1), h0]
theorem digitsA_sub {h h2 : Hp} (hs : h.sub h2) {v sl : AV} (hd : digitsA h v = some sl) : digitsA h2 v = some sl := by
  unfold digitsA at hd ⊢
  split at hd
  · exact hd
  · rename_i b o
    have : ∀ x, cellAt h b o = some x → cellAt h2 b o = some x := fun x hx => by
      unfold cellAt at hx ⊢
      split at hx
      · rename_i cs ro hb; rw [hs _ _ hb]; exact hx
      · cases hx
    split at hd
    · rename_i hx; rw [this _ hx]; exact hd
    · rename_i hx; rw [this _ hx]; exact hd
    · rename_i hx; rw [this _ hx]; exact hd
    · cases hd
  · cases hd
theorem NumAt.sub {h h2 : Hp} (hs : h.sub h2) {v : AV} {ds bs : List Nat} (hn : NumAt h v ds bs) : NumAt h2 v ds bs := by
  obtain ⟨sl, h1, h2'⟩ := hn
  refine ⟨sl, digitsA_sub hs h1, ?_⟩
  rcases h2' with h2' | ⟨rb, off, cap, ex, rfl, rfl, hg, hc⟩
  · exact .inl h2'
  · refine .inr ⟨rb, off, cap, ex, rfl, rfl, ?_, hc⟩
    unfold getCells at hg ⊢
    split at hg
    · rename_i cs ro hb; rw [hs _ _ hb]; exact hg
    · cases hg

theorem digVal_log2 {ds : List Nat} (hd : digOk ds) (hne : ds ≠ []) : 32 * (ds.length - 1) ≤ Nat.log2 (digVal ds) := by
  have hl : ds.getLast hne ≠ 0 := hd.2 _ (List.getLast?_eq_some_getLast hne)
  have h1 : digVal ds = digVal ds.dropLast + 4294967296 ^ ds.dropLast.length * digVal [ds.getLast hne] := by
    rw [← digVal_append, List.dropLast_concat_getLast]
  simp only [digVal, Nat.mul_zero, Nat.add_zero, List.length_dropLast] at h1
  have h2 : 4294967296 ^ (ds.length - 1) * 1 ≤ 4294967296 ^ (ds.length - 1) * ds.getLast hne := Nat.mul_le_mul_left _ (by omega)
  have hB : 4294967296 ^ (ds.length - 1) = 2 ^ (32 * (ds.length - 1)) := by rw [show (4294967296 : Nat) = 2 ^ 32 by decide, ← Nat.pow_mul]
  have hp : 0 < 2 ^ (32 * (ds.length - 1)) := Nat.two_pow_pos _
  rw [hB] at h1 h2
  exact (Nat.le_log2 (by omega)).2 (by omega)
theorem digVal_len {ds : List Nat} (hd : digOk ds) (hv : Nat.log2 (digVal ds) < 100000000000) : ds.length < 5000000000 := by
  cases ds with
  | nil => simp
  | cons d r =>
    have := digVal_log2 hd (List.cons_ne_nil d r)
    omega

/-- A number, opened for a run. -/
theorem open_num {c : Cx} {h : Hp} (hr : Rel c h) {v : AV} {x : Value} (hv : VR c v x) {n : Nat} (hn : numA h v = some n) :
    ∃ c2 h2 v2 ds bs, Opens c h c2 h2 ∧ VR c2 v2 x ∧ NumAt h2 v2 ds bs ∧ small ds ∧ ds.length < 5000000000 ∧ digVal ds = n := by
  by_cases ho : ∃ o, v = .opq o
  · obtain ⟨o, rfl⟩ := ho
    cases o with
    | frac s a b => simp [numA, digsA, digitsA] at hn
    | nat m =>
      simp only [numA] at hn
      split at hn
      · rename_i hm
        injection hn with hn; subst hn
        obtain ⟨c2, h2, a, ds, bs, g1, g2, g3, g4, g5, _⟩ := open_nat hr hv
        obtain ⟨b, o, cells, ro, sl, bs', rfl, rfl, k1, k2, k3⟩ := g3
        refine ⟨c2, h2, _, ds, bs', g1, g2, ⟨sl, ?_, k3⟩, g4.1, digVal_len g4 (by rw [g5]; exact hm), g5⟩
        have hc : cellAt h2 b o = some sl := by unfold cellAt; rw [k1]; exact k2
        unfold digitsA
        simp only
        rw [hc]
        rcases k3 with ⟨_, _, rfl | rfl⟩ | ⟨rb, off, cap, ex, _, rfl, _⟩ <;> rfl
      · cases hn
  · have ho' : ∀ o, v ≠ .opq o := fun o e => ho ⟨o, e⟩
    rw [numA_open ho'] at hn
    split at hn
    · rename_i ds hd
      injection hn with hn; subst hn
      obtain ⟨hs, hl, bs, hna⟩ := digsA_at hd
      exact ⟨c, h, v, ds, bs, Opens.refl hr, hv, hna, hs, hl, rfl⟩
    · cases hn
theorem numA_sub {h h2 : Hp} (hs : h.sub h2) {v : AV} {n : Nat} (hn : numA h v = some n) : numA h2 v = some n := by
  by_cases ho : ∃ o, v = .opq o
  · obtain ⟨o, rfl⟩ := ho
    cases o with
    | frac s a b => simp [numA, digsA, digitsA] at hn
    | nat m => simpa only [numA] using hn
  · have ho' : ∀ o, v ≠ .opq o := fun o e => ho ⟨o, e⟩
    rw [numA_open ho'] at hn
    split at hn
    · rename_i ds hd
      injection hn with hn; subst hn
      obtain ⟨hs', hl, bs, hna⟩ := digsA_at hd
      exact (hna.sub hs).num hs' hl
    · cases hn

/-- Two numbers opened, one after the other. -/
theorem open_two {c : Cx} {h : Hp} (hr : Rel c h) {va vb : AV} {vs : List Value} (hv : VRL c [va, vb] vs) {a b : Nat} (ha : numA h va = some a) (hb : numA h vb = some b) :
    ∃ c2 h2 wa wb da db ba bb, Opens c h c2 h2 ∧ VRL c2 [wa, wb] vs ∧ NumAt h2 wa da ba ∧ NumAt h2 wb db bb ∧ small da ∧ small db ∧ da.length < 5000000000 ∧ db.length < 5000000000 ∧ digVal da = a ∧ digVal db = b := by
  simp only [VRL] at hv
  obtain ⟨x, xs, rfl, hx, y, ys, rfl, hy, rfl⟩ := hv
  obtain ⟨c1, h1, wa, da, ba, o1, q1, q2, q3, q4, q5⟩ := open_num hr hx ha
  obtain ⟨c2, h2, wb, db, bb, o2, r1, r2, r3, r4, r5⟩ := open_num o1.rel (VR.mono o1.le _ _ hy) (numA_sub o1.sub hb)
  exact ⟨c2, h2, wa, wb, da, db, ba, bb, o1.trans o2, by simp only [VRL]; exact ⟨_, _, rfl, VR.mono o2.le _ _ q1, _, _, rfl, r1, rfl⟩, q2.sub o2.sub, r2, q3, r3, q4, r4, q5, r5⟩

/-! ### the first hooks -/
theorem closes_made {c c2 : Cx} {h h2 h' : Hp} (ho : Opens c h c2 h2) {v : AV} {n : Nat} {A : List Nat} (hm : Made h2 h' v n A) (hA : ∀ b ∈ A, h2.m.get b ≠ none ∧ h.m.get b = none) : h.sub h' ∧ Closes c h c2 h2 h' v (.opq (.nat n)) := by
  obtain ⟨ds, bs, h1, h3, rfl, h4, h5⟩ := hm
  refine ⟨fun b x hb => h4 _ _ (ho.sub _ _ hb), closes_nat ho h1 h3 fun b hb => ?_⟩
  rcases h5 b hb with ⟨h6, h7⟩ | h6
  · refine .inl ⟨?_, h7⟩
    cases hg : h.m.get b with
    | none => rfl
    | some y => rw [ho.sub b y hg] at h6; cases h6
  · exact .inr (hA b h6)

def g0 : FuncId → List AV → Hp → Option AV := fun f args h =>
  if f = 123 then match args with
    | [v] => digitsA h v
    | _ => none
  else if f = 133 then match args with
    | [sl, .int .i64 i] => atA h sl i
    | _ => none
  else none
theorem noHk_ok {P : Program} : CallOK P (fun _ _ _ => none) := fun f args h r h1 hh => by cases hh
theorem noHk_dom : DomOK (fun _ _ _ => none) := fun f args h r h1 hh => by cases hh
theorem prog_mixed : Tryz.prog.follows .mixedOrders = true := by kernel_rfl
theorem same_pure {c c2 : Cx} {h h2 h' : Hp} (ho : Opens c h c2 h2) (hm : h'.m = h2.m) {v : AV} (hf : v.flat = true) : h.sub h' ∧ Closes c h c2 h2 h' v v :=
  ⟨fun b x hb => by rw [hm]; exact ho.sub _ _ hb, closes_flat hf⟩
end Go.Vk
set_option linter.unusedSimpArgs false
set_option linter.unusedVariables false
set_option maxRecDepth 100000
set_option maxHeartbeats 4000000
namespace Go.Vk
open Go.Proofs (Tryz.prog)

theorem closes_old {c c2 : Cx} {h h2 h' : Hp} (ho : Opens c h c2 h2) {v : AV} {v0 : Value} (hv : VR c v v0) : Closes c h c2 h2 h' v v :=
  ⟨[], by simp, fun c' x g1 g2 g3 => VR.shrink (c := c) (c' := c') (c1 := c.close c' []) (fun b hb => ⟨hb, ((ho.le.trans g2.le).d b hb).2.symm⟩) rfl (fun k hk => .inl hk) v _ _ hv g3⟩
theorem cell_vr {c : Cx} {h : Hp} (hr : Rel c h) {b o : Nat} {v : AV} (hc : cellAt h b o = some v) : ∃ v0, VR c v v0 := by
  unfold cellAt at hc
  split at hc
  · rename_i cs ro hb
    obtain ⟨vcs, e, fr, _, k2, _⟩ := hr.blk b _ hb
    obtain ⟨y, _, hy⟩ := k2 o v hc
    exact ⟨y, hy⟩
  · cases hc
theorem digitsA_vr {c : Cx} {h : Hp} (hr : Rel c h) {v sl : AV} (hd : digitsA h v = some sl) : ∃ v0, VR c sl v0 := by
  unfold digitsA at hd
  split at hd
  · injection hd with hd; subst hd; exact ⟨_, by simp only [VR]; rfl⟩
  · rename_i b o
    refine cell_vr hr (b := b) (o := o) ?_
    split at hd <;> first | (injection hd with hd; subst hd; assumption) | cases hd
  · cases hd
theorem atA_flat {h : Hp} {sl r : AV} {i : Int} (hh : atA h sl i = some r) : r.flat = true := by
  unfold atA at hh
  split at hh
  · split at hh
    · injection hh with hh; subst hh; rfl
    · cases hh
  · split at hh
    · injection hh with hh; subst hh; rfl
    · cases hh
  · split at hh
    · split at hh
      · split at hh
        · injection hh with hh; subst hh; rfl
        · cases hh
      · injection hh with hh; subst hh; rfl
    · cases hh
  · cases hh

theorem g0_ok : ∀ f args h r, g0 f args h = some r → PureOK Tryz.prog f args h r := by
  intro f args h r hh c vs hr hgl hv
  unfold g0 at hh
  split at hh
  · rename_i hf
    subst hf
    split at hh
    · rename_i v
      refine pure_of_run prog_mixed noHk_ok noHk_dom hr hgl (Opens.refl hr) hv ?_
      obtain ⟨n, r', h1, q1, rfl, q2⟩ := digits_run (hk := fun _ _ _ => none) (fun _ _ => rfl) hh
      obtain ⟨v0, hv0⟩ := digitsA_vr hr hh
      exact ⟨n, r', h1, q1, fun b x hb => by rw [q2]; exact hb, closes_old (Opens.refl hr) hv0⟩
    · cases hh
  · split at hh
    · rename_i hf
      subst hf
      split at hh
      · rename_i sl i
        refine pure_of_run prog_mixed noHk_ok noHk_dom hr hgl (Opens.refl hr) hv ?_
        obtain ⟨n, r', h1, q1, rfl, q2⟩ := at_run (hk := fun _ _ _ => none) (fun _ _ => rfl) hh
        exact ⟨n, r', h1, q1, same_pure (Opens.refl hr) q2 (atA_flat hh)⟩
      · cases hh
    · cases hh
abbrev hk0 : Hooks := pureHk g0
theorem hk0_ok : CallOK Tryz.prog hk0 := pureHk_ok g0_ok
theorem hk0_dom : DomOK hk0 := pureHk_dom
theorem base0 : Base hk0 := ⟨fun h v r hh => by simp (config := {decide := true}) only [hk0, pureHk, g0, if_true, hh],
  fun h sl i r hh => by simp (config := {decide := true}) only [hk0, pureHk, g0, if_true, if_false, hh],
  fun a h => rfl⟩

/-- Two numbers come, one value goes. -/
def two (h : Hp) (g : Nat → Nat → Option AV) : List AV → Option AV
  | [va, vb] => match numA h va, numA h vb with
    | some a, some b => g a b
    | _, _ => none
  | _ => none
def g1 : FuncId → List AV → Hp → Option AV := fun f args h =>
  if f = 92 then two h (fun a b => some (.int .i64 (cmpN a b))) args
  else if f = 131 then two h (fun a b => some (.opq (.nat (a + b)))) args
  else if f = 94 then two h (fun a b => some (.opq (.nat (a * b)))) args
  else none
theorem two_some {h : Hp} {g : Nat → Nat → Option AV} {args : List AV} {r : AV} (hh : two h g args = some r) : ∃ va vb a b, args = [va, vb] ∧ numA h va = some a ∧ numA h vb = some b ∧ g a b = some r := by
  unfold two at hh
  split at hh
  · rename_i va vb
    split at hh
    · rename_i a b ha hb; exact ⟨va, vb, a, b, rfl, ha, hb, hh⟩
    · cases hh
  · cases hh
theorem g1_ok : ∀ f args h r, g1 f args h = some r → PureOK Tryz.prog f args h r := by
  intro f args h r hh c vs hr hgl hv
  unfold g1 at hh
  split at hh
  · rename_i hf
    subst hf
    obtain ⟨va, vb, a, b, rfl, ha, hb, hg⟩ := two_some hh
    injection hg with hg; subst hg
    obtain ⟨c2, h2, wa, wb, da, db, ba, bb, ho, p1, p2, p3, p4, p5, p6, p7, rfl, rfl⟩ := open_two hr hv ha hb
    refine pure_of_run prog_mixed hk0_ok hk0_dom hr hgl ho p1 ?_
    obtain ⟨n, r', h1, q1, rfl, q2⟩ := cmp_run base0 (fun _ _ => rfl) p2 p3 p4 p5 (by omega) (by omega)
    exact ⟨n, _, h1, q1, same_pure ho q2 rfl⟩
  split at hh
  · rename_i hf
    subst hf
    obtain ⟨va, vb, a, b, rfl, ha, hb, hg⟩ := two_some hh
    injection hg with hg; subst hg
    obtain ⟨c2, h2, wa, wb, da, db, ba, bb, ho, p1, p2, p3, p4, p5, p6, p7, rfl, rfl⟩ := open_two hr hv ha hb
    refine pure_of_run prog_mixed hk0_ok hk0_dom hr hgl ho p1 ?_
    obtain ⟨n, r', h1, q1, q2⟩ := add_run base0 (fun _ _ => rfl) ho.rel.fr p2 p3 p4 p5 (by omega) (by omega)
    exact ⟨n, _, h1, q1, closes_made ho q2 (fun b hb => by cases hb)⟩
  split at hh
  · rename_i hf
    subst hf
    obtain ⟨va, vb, a, b, rfl, ha, hb, hg⟩ := two_some hh
    injection hg with hg; subst hg
    obtain ⟨c2, h2, wa, wb, da, db, ba, bb, ho, p1, p2, p3, p4, p5, p6, p7, rfl, rfl⟩ := open_two hr hv ha hb
    refine pure_of_run prog_mixed hk0_ok hk0_dom hr hgl ho p1 ?_
    obtain ⟨n, r', h1, q1, q2⟩ := mul_run base0 (fun _ _ => rfl) ho.rel.fr p2 p3 p4 p5 (by omega) (by omega)
    exact ⟨n, _, h1, q1, closes_made ho q2 (fun b hb => by cases hb)⟩
  cases hh
end Go.Vk
set_option linter.unusedSimpArgs false
set_option linter.unusedVariables false
set_option maxRecDepth 100000
set_option maxHeartbeats 4000000
namespace Go.Vk
open Go.Proofs (Tryz.prog)
structure Base2 (hk : Hooks) : Prop extends Base hk where
  cmp : ∀ h va vb a b, numA h va = some a → numA h vb = some b → hk 92 [va, vb] h = some (.int .i64 (cmpN a b), h)
theorem numA_nx {h : Hp} {nx : Nat} {v : AV} : numA ⟨h.m, nx⟩ v = numA h v := rfl

theorem bs2 (id : Nat) (a b : Int) : aBuildSlice Tryz.prog 171 id 2 [(0, .int .u32 a), (1, .int .u32 b)] = some (.slice id 0 2 2 true 1, some (.row [.int .u32 a, .int .u32 b] false)) := by
  simp only [aBuildSlice, eSl]
  rw [iU32]
  simp only [zU32, iU32s]
  simp [repeatL, fillA, AV.cells]
theorem fn_Of : fnE Tryz.prog 75 = some ⟨(Go.Proofs.Tryz.f75.body).getD .skip, 10, [.tmp 2]⟩ := by kernel_rfl
theorem Of_run {hk : Hooks} (B : Base hk) (hn : ∀ a h, hk 75 a h = none) {h : Hp} (hf : h.fr) {x : Nat} (hx : x < 18446744073709551616) :
    ExF Tryz.prog hk 75 [.int .u64 x] h fun r' h1 => Made h h1 r' x [] := by
  refine ExF.body fn_Of (hn _ _) (by simp) ?_
  simp only [Go.Proofs.Tryz.f75, Option.getD_some]
  (repeat refine Ex.assoc ?_); refine Ex.step (m := 0) (by simp (config := {decide := true}) only [RS, Nat.reduceAdd]; rfl) ?_
  have w1 : IntKind.u32.wrap ((x : Nat) : Int) = ((x % 4294967296 : Nat) : Int) := by rw [wrap_u32]; omega
  have w2 : IntKind.u32.wrap ((x / 4294967296 : Nat) : Int) = ((x / 4294967296 : Nat) : Int) := by rw [wrap_u32]; omega
  have hfr : h.m.get (h.nx + 6) = none := hf _ (by omega)
  have hs : small [x % 4294967296, x / 4294967296] := fun d hd => by
    simp only [List.mem_cons, List.not_mem_nil, or_false] at hd
    rcases hd with rfl | rfl <;> omega
  have hgo : ∀ nx, getCells ⟨h.m.set (h.nx + 6) (.row [.int .u32 ((x % 4294967296 : Nat) : Int), .int .u32 ((x / 4294967296 : Nat) : Int)] false), nx⟩ (h.nx + 6) 0 [x % 4294967296, x / 4294967296].length = some (u32s [x % 4294967296, x / 4294967296]) := fun nx => by
    simp [getCells, PT.get_set, u32s]
  obtain ⟨m, r', h1', q1, nb, rfl, q2, q3, q4⟩ := of_run B.of (h := ⟨h.m.set (h.nx + 6) (.row [.int .u32 ((x % 4294967296 : Nat) : Int), .int .u32 ((x / 4294967296 : Nat) : Int)] false), h.nx + 9⟩)
    (fun b hb => by simp only at hb; simp only [PT.get_set]; rw [if_neg (by omega)]; exact hf _ (by omega)) (b := h.nx + 6) (off := 0) (cap := 2) (ex := true) (ds := [x % 4294967296, x / 4294967296]) (hgo _) (by simp) (by simp)
  simp only [List.length] at q1
  (repeat refine Ex.assoc ?_); refine Ex.step (m := m) (by simp (config := {decide := true}) only [RS, Nat.reduceAdd, tU64, tU32, shr32, w1, w2, bs2, fresh, hfr, fn_of, q1]; rfl) ?_
  refine Ex.ret ⟨trivial, _, by simp (config := {decide := true}) only [RS, Nat.reduceAdd]; rfl, ?_⟩
  simp (config := {decide := true}) only [RS, Nat.reduceAdd]
  have hv : digVal [x % 4294967296, x / 4294967296] = x := by simp only [digVal]; omega
  have := made_of (h := h) (h1 := h1') hf hs (ob := h.nx + 6) (nb := nb) (cap := 2) (ex := true) (by omega) (by simp only at q2; omega) (by simp) (fun b => by
    rw [q4]
    simp only [PT.get_set]
    rfl)
  rw [hv] at this
  exact this
end Go.Vk
set_option linter.unusedSimpArgs false
set_option linter.unusedVariables false
set_option maxRecDepth 100000
set_option maxHeartbeats 4000000
namespace Go.Vk
open Go.Proofs (Tryz.prog)
theorem tI64 : Tryz.prog.underlying 2 = some (.int .i64) := by kernel_rfl
theorem shr32i {t : Int} : t.fdiv (2 ^ (min (Int.toNat 32) (IntKind.bits .i64))) = t / 4294967296 := by
  rw [show (2 ^ (min (Int.toNat 32) (IntKind.bits .i64)) : Int) = 4294967296 by decide]
  rw [Int.fdiv_eq_ediv_of_nonneg _ (by omega)]
theorem take_all {ds : List Nat} {m : Nat} (h : digVal ds < 4294967296 ^ m) : digVal (ds.take m) = digVal ds := by
  rcases Nat.le_total ds.length m with hl | hl
  · rw [List.take_of_length_le hl]
  · have h1 := digVal_append (ds.take m) (ds.drop m)
    rw [List.take_append_drop, List.length_take, Nat.min_eq_left hl] at h1
    rcases Nat.eq_zero_or_pos (digVal (ds.drop m)) with h2 | h2
    · rw [h2] at h1; omega
    · have := Nat.mul_le_mul_left (4294967296 ^ m) h2
      omega
theorem fn_less : fnE Tryz.prog 134 = some ⟨(Go.Proofs.Tryz.f134.body).getD .skip, 48, [.tmp 4, .tmp 5]⟩ := by kernel_rfl
theorem less_run {hk : Hooks} (B : Base2 hk) (hn : ∀ a h, hk 134 a h = none) {h : Hp} (hf : h.fr) {va vb : AV} {da db ba bb : List Nat} (ha : NumAt h va da ba) (hb : NumAt h vb db bb) (sa : small da) (sb : small db)
    (la : da.length < 5000000000) (lb : db.length < 5000000000) :
    ExF Tryz.prog hk 134 [va, vb] h fun r' h1 => if digVal da < digVal db then r' = .tup [.nilp, .bool false] ∧ h1.m = h.m else ∃ v, r' = .tup [v, .bool true] ∧ Made h h1 v (digVal da - digVal db) [] := by
  have na := ha.num sa la
  have nb := hb.num sb lb
  obtain ⟨ra, ha1, ha2⟩ := ha
  obtain ⟨rb, hb1, hb2⟩ := hb
  refine ExF.body fn_less (hn _ _) (by simp) ?_
  simp only [Go.Proofs.Tryz.f134, Option.getD_some]
  have cc : ∀ m nx, callF Tryz.prog hk m 92 [va, vb] ⟨h.m, nx⟩ = some (.int .i64 (cmpN (digVal da) (digVal db)), ⟨h.m, nx⟩) := fun m nx => callF_hk (B.cmp _ _ _ _ _ na nb)
  have ca : ∀ m nx, callF Tryz.prog hk m 123 [va] ⟨h.m, nx⟩ = some (ra, ⟨h.m, nx⟩) := fun m nx => callF_hk (B.digits _ _ _ ha1)
  have cb : ∀ m nx, callF Tryz.prog hk m 123 [vb] ⟨h.m, nx⟩ = some (rb, ⟨h.m, nx⟩) := fun m nx => callF_hk (B.digits _ _ _ hb1)
  (repeat refine Ex.assoc ?_); refine Ex.step (m := 0) (by simp (config := {decide := true}) only [RS, Nat.reduceAdd]; rfl) ?_
  (repeat refine Ex.assoc ?_); refine Ex.step (m := 0) (by simp (config := {decide := true}) only [RS, Nat.reduceAdd, fn_cmp, cc]; rfl) ?_
  by_cases hlt : digVal da < digVal db
  · have hc : cmpN (digVal da) (digVal db) < 0 := by simp [cmpN, hlt]
    refine Ex.ifT (by simp (config := {decide := true}) only [RS, Nat.reduceAdd, hc]) ?_
    (repeat refine Ex.assoc ?_); refine Ex.step (m := 0) (by simp (config := {decide := true}) only [RS, Nat.reduceAdd]; rfl) ?_
    refine Ex.retS ⟨trivial, _, by simp (config := {decide := true}) only [RS, Nat.reduceAdd]; rfl, ?_⟩
    rw [if_pos hlt]
    exact ⟨rfl, rfl⟩
  · have hc : ¬ cmpN (digVal da) (digVal db) < 0 := by unfold cmpN; rw [if_neg hlt]; split <;> omega
    refine Ex.ifF (by simp (config := {decide := true}) only [RS, Nat.reduceAdd, hc]) (Ex.skipS ?_)
    (repeat refine Ex.assoc ?_); refine Ex.step (m := 0) (by simp (config := {decide := true}) only [RS, Nat.reduceAdd, fn_digits, ca, cb]; rfl) ?_
    have hfr : h.m.get (h.nx + 14) = none := hf _ (by omega)
    obtain ⟨N, hN⟩ : ∃ N, N = da.length := ⟨_, rfl⟩
    have hmk : ∀ id, _ := fun id => mk_u32 id N (by have hm : most = 1099511627776 := rfl; omega)
    (repeat refine Ex.assoc ?_); refine Ex.step (m := 0) (by simp (config := {decide := true}) only [RS, Nat.reduceAdd, ha2.len, ← hN, hmk, fresh, hfr]; rfl) ?_
    (repeat refine Ex.assoc ?_); refine Ex.step (m := 0) (by simp (config := {decide := true}) only [RS, Nat.reduceAdd]; rfl) ?_
    (repeat refine Ex.assoc ?_); refine Ex.step (m := 0) (by simp (config := {decide := true}) only [RS, Nat.reduceAdd, aLen, tSl]; rfl) ?_
    have hne : ∀ b ∈ ba, b ≠ h.nx + 14 := fun b hb => by have := ha2.fresh hf hb; omega
    have hne' : ∀ b ∈ bb, b ≠ h.nx + 14 := fun b hb => by have := hb2.fresh hf hb; omega
    have hrow : ∀ {h' : Hp} {out : List Nat}, (∀ b, h'.m.get b = if b = h.nx + 14 then some (.row (u32s out) false) else h.m.get b) → DigAt h' ra da ba ∧ DigAt h' rb db bb := fun hh =>
      ⟨ha2.ext fun b hb => by rw [hh, if_neg (hne b hb)], hb2.ext fun b hb => by rw [hh, if_neg (hne' b hb)]⟩
    refine Ex.cut (fun env h' => ∃ out : List Nat, out.length = N ∧ small out ∧ digVal out = digVal da - digVal db ∧ env.get 8 = some (.slice (h.nx + 14) 0 N N true 1) ∧ h.nx + 16 ≤ h'.nx ∧ ∀ b, h'.m.get b = if b = h.nx + 14 then some (.row (u32s out) false) else h.m.get b) (Ex.block ?_) ?_
    · refine Ex.loop (fun j env h' => ∃ (i w : Nat) (out : List Nat), j = N - i ∧ i ≤ N ∧ w ≤ 1 ∧ out.length = N ∧ small out ∧ digVal (out.take i) + digVal (db.take i) = digVal (da.take i) + 4294967296 ^ i * w ∧
        env.get 6 = some ra ∧ env.get 7 = some rb ∧ env.get 8 = some (.slice (h.nx + 14) 0 N N true 1) ∧ env.get 9 = some (.int .i64 (-(w : Int))) ∧ env.get 23 = some (.int .i64 N) ∧ env.get 24 = some (.int .i64 i) ∧
        h.nx + 16 ≤ h'.nx ∧ ∀ b, h'.m.get b = if b = h.nx + 14 then some (.row (u32s out) false) else h.m.get b) ?_ N _ _ ?_
      · rintro j env h' ⟨i, w, out, rfl, h1, h2, h3, h4, h5, g6, g7, g8, g9, g23, g24, h6, h7⟩
        (repeat refine Ex.assoc ?_); refine Ex.step (m := 0) (by simp (config := {decide := true}) only [RS, Nat.reduceAdd, g23, g24]; rfl) ?_
        by_cases hi : i < N
        · have hi1 : ((i : Nat) : Int) < (N : Int) := by omega
          refine Ex.ifT (by simp (config := {decide := true}) only [RS, Nat.reduceAdd, hi1]) (Ex.skipS ?_)
          obtain ⟨da', db'⟩ := hrow h7
          have cA : ∀ m nx, callF Tryz.prog hk m 133 [ra, .int .i64 i] ⟨h'.m, nx⟩ = some (.int .u64 (dig da i : Nat), ⟨h'.m, nx⟩) := fun m nx => callF_hk (B.at' _ _ _ _ (da'.at sa i))
          have cB : ∀ m nx, callF Tryz.prog hk m 133 [rb, .int .i64 i] ⟨h'.m, nx⟩ = some (.int .u64 (dig db i : Nat), ⟨h'.m, nx⟩) := fun m nx => callF_hk (B.at' _ _ _ _ (db'.at sb i))
          have l1 := dig_lt sa i
          have l2 := dig_lt sb i
          obtain ⟨t, ht⟩ : ∃ t : Int, t = -(w : Int) + (((dig da i : Nat) : Int) - ((dig db i : Nat) : Int)) := ⟨_, rfl⟩
          obtain ⟨x, hx⟩ : ∃ x : Nat, (x : Int) = t % 4294967296 := ⟨(t % 4294967296).toNat, by omega⟩
          obtain ⟨w', hw'⟩ : ∃ w' : Nat, -(w' : Int) = t / 4294967296 := ⟨(-(t / 4294967296)).toNat, by omega⟩
          have v1 : IntKind.i64.wrap ((dig da i : Nat) : Int) = (dig da i : Nat) := by rw [wrap_i64] <;> omega
          have v2 : IntKind.i64.wrap ((dig db i : Nat) : Int) = (dig db i : Nat) := by rw [wrap_i64] <;> omega
          have v3 : IntKind.i64.wrap (((dig da i : Nat) : Int) - ((dig db i : Nat) : Int)) = ((dig da i : Nat) : Int) - ((dig db i : Nat) : Int) := by rw [wrap_i64] <;> omega
          have v4 : IntKind.i64.wrap (-(w : Int) + (((dig da i : Nat) : Int) - ((dig db i : Nat) : Int))) = t := by rw [wrap_i64] <;> omega
          have v5 : IntKind.u32.wrap t = (x : Nat) := by rw [wrap_u32]; omega
          have e3 : (0 ≤ ((i : Nat) : Int) ∧ ((i : Nat) : Int) < (N : Int)) := by omega
          refine Ex.seq (Ex.block ?_)
          (repeat refine Ex.assoc ?_); refine Ex.step (m := 0) (by simp (config := {decide := true}) only [RS, Nat.reduceAdd, g24]; rfl) ?_
          (repeat refine Ex.assoc ?_); refine Ex.step (m := 0) (by simp (config := {decide := true}) only [RS, Nat.reduceAdd, fn_at, cA, cB, g6, g7, g9, tU64, tI64, v1, v2, v3, v4]; rfl) ?_
          have hp : ∀ nx, putCells ⟨h'.m, nx⟩ (h.nx + 14) (0 + i * 1) [.int .u32 (x : Int)] = some ⟨h'.m.set (h.nx + 14) (.row (u32s (out.set i x)) false), nx⟩ := fun nx =>
            putCells_u32 (h := ⟨h'.m, nx⟩) (by simp only [h7, if_true]) (by omega)
          (repeat refine Ex.assoc ?_); refine Ex.step (m := 0) (by simp (config := {decide := true}) only [RS, Nat.reduceAdd, g8, v5, tSl, tU32, tU64, tI64, hU32, sU32, e3, Int.toNat_natCast, hp]; rfl) ?_
          refine Ex.last (m := 0) (by simp (config := {decide := true}) only [RS, Nat.reduceAdd, shr32i, ← hw']; rfl) ?_
          simp (config := {decide := true}) only [thenK, blockK, ite_true, ite_false, if_true, if_false]
          have e4 : IntKind.i64.wrap (((i : Nat) : Int) + 1) = ((i + 1 : Nat) : Int) := by rw [wrap_i64] <;> omega
          refine Ex.last (m := 0) (by simp (config := {decide := true}) only [RS, Nat.reduceAdd, g24, e4]; rfl) ?_
          simp (config := {decide := true}) only [thenK, blockK, ite_true, ite_false, if_true, if_false]
          refine ⟨N - (i + 1), by omega, i + 1, w', out.set i x, rfl, by omega, by omega, by simpa using h3, small_set h4 (by omega) i, ?_, by simp (config := {decide := true}) only [RS, Nat.reduceAdd, g6], by simp (config := {decide := true}) only [RS, Nat.reduceAdd, g7], by simp (config := {decide := true}) only [RS, Nat.reduceAdd, g8], by simp (config := {decide := true}) only [RS, Nat.reduceAdd], by simp (config := {decide := true}) only [RS, Nat.reduceAdd, g23], by simp (config := {decide := true}) only [RS, Nat.reduceAdd], (by first | omega | (simp only [Nat.add_assoc]; omega) | (dsimp only; omega)), ?_⟩
          · rw [take_set (by omega), digVal_append, digVal_take_succ, digVal_take_succ, List.length_take, Nat.min_eq_left (by omega), Nat.pow_succ]
            simp only [digVal, Nat.mul_zero, Nat.add_zero]
            have hm : x + w + dig db i = dig da i + 4294967296 * w' := by omega
            have t1 : 4294967296 ^ i * x + 4294967296 ^ i * w + 4294967296 ^ i * dig db i = 4294967296 ^ i * dig da i + 4294967296 ^ i * 4294967296 * w' := by
              rw [Nat.mul_assoc, ← Nat.mul_add, ← Nat.mul_add, hm, Nat.mul_add]
            omega
          · intro b
            simp only [PT.get_set, h7]
            split <;> rfl
        · have hi1 : ¬ ((i : Nat) : Int) < (N : Int) := by omega
          refine Ex.ifF (by simp (config := {decide := true}) only [RS, Nat.reduceAdd, hi1]) (Ex.exitS ?_)
          simp (config := {decide := true}) only [thenK, blockK, ite_true, ite_false, if_true, if_false]
          have hiN : i = N := by omega
          subst hiN
          refine ⟨out, h3, h4, ?_, by simp (config := {decide := true}) only [RS, Nat.reduceAdd, g8], (by first | omega | (simp only [Nat.add_assoc]; omega) | (dsimp only; omega)), h7⟩
          have b1 := digVal_lt sa
          have b3 := digVal_lt h4
          rw [hN] at h5 h3
          rw [h3] at b3
          rw [List.take_of_length_le (l := out) (by omega), List.take_length, take_all (ds := db) (by omega)] at h5
          rcases Nat.eq_zero_or_pos w with h0 | h0
          · subst h0; omega
          · have : w = 1 := by omega
            subst this; omega
      · refine ⟨0, 0, List.replicate N 0, rfl, by omega, by omega, by simp, small_rep N, by simp [digVal], by simp (config := {decide := true}) only [RS, Nat.reduceAdd], by simp (config := {decide := true}) only [RS, Nat.reduceAdd], by simp (config := {decide := true}) only [RS, Nat.reduceAdd], by simp (config := {decide := true}) only [RS, Nat.reduceAdd]; rfl, by simp (config := {decide := true}) only [RS, Nat.reduceAdd], by simp (config := {decide := true}) only [RS, Nat.reduceAdd]; rfl, (by first | omega | (simp only [Nat.add_assoc]; omega) | (dsimp only; omega)), ?_⟩
        intro b
        simp only [PT.get_set]
    · rintro env h' ⟨out, h1, h2, h3, h4, h5, h6⟩
      have hf' : h'.fr := fun b hb => by
        rw [h6, if_neg (by omega)]; exact hf b (by omega)
      have hgo : ∀ nx, getCells ⟨h'.m, nx⟩ (h.nx + 14) 0 out.length = some (u32s out) := fun nx => by
        unfold getCells
        simp only [h6, if_true]
        rw [if_pos (by simp [u32s])]
        simp only [List.drop_zero]
        rw [List.take_of_length_le (by simp [u32s])]
      obtain ⟨m, r', h1', q1, nb, rfl, q2, q3, q4⟩ := of_run B.of (h := ⟨h'.m, h'.nx + 4⟩) (fun b hb => hf' b (by simp only at hb; omega)) (b := h.nx + 14) (off := 0) (cap := N) (ex := true) (ds := out) (hgo _) (by omega) (by omega)
      rw [h1] at q1
      (repeat refine Ex.assoc ?_); refine Ex.step (m := m) (by simp (config := {decide := true}) only [RS, Nat.reduceAdd, h4, fn_of, q1]; rfl) ?_
      refine Ex.ret ⟨trivial, _, by simp (config := {decide := true}) only [RS, Nat.reduceAdd]; rfl, ?_⟩
      simp (config := {decide := true}) only [RS, Nat.reduceAdd]
      rw [if_neg hlt]
      refine ⟨_, rfl, ?_⟩
      rw [← h3]
      refine made_of hf h2 (ob := h.nx + 14) (cap := N) (ex := true) (by omega) (by simp only at q2; omega) (by omega) (fun b => ?_)
      rw [q4]
      simp only [PT.get_set, h6]
end Go.Vk
set_option linter.unusedSimpArgs false
set_option linter.unusedVariables false
set_option maxRecDepth 100000
set_option maxHeartbeats 4000000
namespace Go.Vk
open Go.Proofs (Tryz.prog)
theorem digVal_drop {ds : List Nat} {k : Nat} (hk : k < ds.length) : digVal (ds.drop k) = dig ds k + 4294967296 * digVal (ds.drop (k + 1)) := by
  rw [List.drop_eq_getElem_cons hk]
  simp [digVal, dig, List.getD_eq_getElem?_getD, hk]
theorem drop_set_above {ds : List Nat} {k x : Nat} : (ds.set k x).drop (k + 1) = ds.drop (k + 1) := List.drop_set_of_lt (by omega)
theorem dig_set_same {ds : List Nat} {k x : Nat} (hk : k < ds.length) : dig (ds.set k x) k = x := by
  simp [dig, List.getD_eq_getElem?_getD, hk]
/-- A half above a half. -/
theorem or_half {r d : Nat} (hr : r < 4294967296) (hd : d < 4294967296) :
    IntKind.u64.wrap (((BitVec.ofInt (IntKind.bits .u64) ((4294967296 * r : Nat) : Int) ||| BitVec.ofInt (IntKind.bits .u64) ((d : Nat) : Int)).toNat : Nat) : Int) = ((4294967296 * r + d : Nat) : Int) := by
  have e : IntKind.bits .u64 = 64 := rfl
  rw [e, BitVec.ofInt_natCast, BitVec.ofInt_natCast, BitVec.toNat_or, BitVec.toNat_ofNat, BitVec.toNat_ofNat, Nat.mod_eq_of_lt (by omega), Nat.mod_eq_of_lt (by omega)]
  have := Nat.shiftLeft_add_eq_or_of_lt (b := d) (i := 32) (by omega) r
  rw [Nat.shiftLeft_eq] at this
  rw [show 4294967296 * r = r * 2 ^ 32 by omega, ← this, wrap_u64] <;> omega
theorem shl32 {r : Nat} (hr : r < 4294967296) : IntKind.u64.wrap (((r : Nat) : Int) * 2 ^ (min (Int.toNat 32) (IntKind.bits .u64))) = ((4294967296 * r : Nat) : Int) := by
  rw [show (2 ^ (min (Int.toNat 32) (IntKind.bits .u64)) : Int) = 4294967296 by decide, wrap_u64] <;> omega
theorem quo_u64 {a b : Nat} (ha : a < 18446744073709551616) : IntKind.u64.wrap (((a : Nat) : Int).tdiv ((b : Nat) : Int)) = ((a / b : Nat) : Int) := by
  rw [← Int.ofNat_tdiv]
  have := Nat.div_le_self a b
  generalize a / b = q at *
  rw [wrap_u64] <;> omega
theorem rem_nat {a b : Nat} : ((a : Nat) : Int).tmod ((b : Nat) : Int) = ((a % b : Nat) : Int) := (Int.ofNat_tmod a b).symm

theorem fn_short : fnE Tryz.prog 124 = some ⟨(Go.Proofs.Tryz.f124.body).getD .skip, 39, [.tmp 4, .tmp 5]⟩ := by kernel_rfl
theorem short_run {hk : Hooks} (B : Base hk) (hn : ∀ a h, hk 124 a h = none) {h : Hp} (hf : h.fr) {ra : AV} {da ba : List Nat} (ha2 : DigAt h ra da ba) (sa : small da) (la : da.length < 10000000000) {y : Nat} (hy : 0 < y) (hy2 : y < 4294967296) :
    ExF Tryz.prog hk 124 [ra, .int .u64 y] h fun r' h1 => ∃ ob out, r' = .tup [.slice ob 0 da.length da.length true 1, .int .u64 (digVal da % y : Nat)] ∧ h.nx ≤ ob ∧ ob < h1.nx ∧ (∀ b, h1.m.get b = if b = ob then some (.row (u32s out) false) else h.m.get b) ∧
      out.length = da.length ∧ small out ∧ digVal out = digVal da / y := by
  refine ExF.body fn_short (hn _ _) (by simp) ?_
  simp only [Go.Proofs.Tryz.f124, Option.getD_some]
  (repeat refine Ex.assoc ?_); refine Ex.step (m := 0) (by simp (config := {decide := true}) only [RS, Nat.reduceAdd]; rfl) ?_
  have hfr : h.m.get (h.nx + 4) = none := hf _ (by omega)
  obtain ⟨N, hN⟩ : ∃ N, N = da.length := ⟨_, rfl⟩
  have hmk : ∀ id, _ := fun id => mk_u32 id N (by have hm : most = 1099511627776 := rfl; omega)
  (repeat refine Ex.assoc ?_); refine Ex.step (m := 0) (by simp (config := {decide := true}) only [RS, Nat.reduceAdd, ha2.len, ← hN, hmk, fresh, hfr]; rfl) ?_
  (repeat refine Ex.assoc ?_); refine Ex.step (m := 0) (by simp (config := {decide := true}) only [RS, Nat.reduceAdd]; rfl) ?_
  have w0 : IntKind.i64.wrap ((N : Int) - 1) = (N : Int) - 1 := by rw [wrap_i64] <;> omega
  (repeat refine Ex.assoc ?_); refine Ex.step (m := 0) (by simp (config := {decide := true}) only [RS, Nat.reduceAdd, ha2.len, ← hN, w0]; rfl) ?_
  have hne : ∀ b ∈ ba, b ≠ h.nx + 4 := fun b hb => by have := ha2.fresh hf hb; omega
  refine Ex.cut (fun env h' => ∃ (out : List Nat), out.length = N ∧ small out ∧ digVal out = digVal da / y ∧ env.get 6 = some (.slice (h.nx + 4) 0 N N true 1) ∧ env.get 7 = some (.int .u64 (digVal da % y : Nat)) ∧ h.nx + 6 ≤ h'.nx ∧ ∀ b, h'.m.get b = if b = h.nx + 4 then some (.row (u32s out) false) else h.m.get b) (Ex.block ?_) ?_
  · refine Ex.loop (fun k env h' => ∃ (out : List Nat), k ≤ N ∧ out.length = N ∧ small out ∧ digVal (out.drop k) = digVal (da.drop k) / y ∧ env.get 0 = some ra ∧ env.get 1 = some (.int .u64 y) ∧ env.get 6 = some (.slice (h.nx + 4) 0 N N true 1) ∧ env.get 7 = some (.int .u64 (digVal (da.drop k) % y : Nat)) ∧
      env.get 8 = some (.int .i64 ((k : Int) - 1)) ∧ h.nx + 6 ≤ h'.nx ∧ ∀ b, h'.m.get b = if b = h.nx + 4 then some (.row (u32s out) false) else h.m.get b) ?_ N _ _ ?_
    · rintro k env h' ⟨out, h1, h2, h3, h4, g0, g1, g6, g7, g8, h5, h6⟩
      cases k with
      | zero =>
        (repeat refine Ex.assoc ?_); refine Ex.step (m := 0) (by simp (config := {decide := true}) only [RS, Nat.reduceAdd, g8, Int.natCast_zero]; rfl) ?_
        refine Ex.ifF (by simp (config := {decide := true}) only [RS, Nat.reduceAdd]) (Ex.exitS ?_)
        simp (config := {decide := true}) only [thenK, blockK, ite_true, ite_false, if_true, if_false]
        refine ⟨out, h2, h3, by simpa using h4, by simp (config := {decide := true}) only [RS, Nat.reduceAdd, g6], by simp (config := {decide := true}) only [RS, Nat.reduceAdd]; simpa using g7, (by first | omega | (simp only [Nat.add_assoc]; omega) | (dsimp only; omega)), h6⟩
      | succ k =>
        have e1 : (((k + 1 : Nat) : Int) - 1) = (k : Nat) := by omega
        have e2 : ((k : Nat) : Int) ≥ 0 := by omega
        rw [e1] at g8
        (repeat refine Ex.assoc ?_); refine Ex.step (m := 0) (by simp (config := {decide := true}) only [RS, Nat.reduceAdd, g8, e2]; rfl) ?_
        refine Ex.ifT (by simp (config := {decide := true}) only [RS, Nat.reduceAdd]) (Ex.skipS ?_)
        refine Ex.seq (Ex.block ?_)
        have hkl : k < da.length := by omega
        have da' : DigAt h' ra da ba := ha2.ext fun b hb => by rw [h6, if_neg (hne b hb)]
        obtain ⟨ab, ao, ac, ae, rfl, hga⟩ := da'.slice hkl
        have hr : digVal (da.drop (k + 1)) % y < y := Nat.mod_lt _ hy
        obtain ⟨r, hr'⟩ : ∃ r, r = digVal (da.drop (k + 1)) % y := ⟨_, rfl⟩
        rw [← hr'] at hr g7
        have hd := dig_lt sa k
        obtain ⟨d, hd'⟩ : ∃ d, d = dig da k := ⟨_, rfl⟩
        rw [← hd'] at hd
        obtain ⟨t, ht⟩ : ∃ t, t = 4294967296 * r + d := ⟨_, rfl⟩
        have ht2 : t < 4294967296 * y := by omega
        have ht3 : t < 18446744073709551616 := by omega
        have hq : t / y < 4294967296 := Nat.div_lt_of_lt_mul (by rw [Nat.mul_comm]; exact ht2)
        have w1 : IntKind.u64.wrap ((d : Nat) : Int) = d := by rw [wrap_u64] <;> omega
        have w2 : IntKind.u32.wrap ((t / y : Nat) : Int) = ((t / y : Nat) : Int) := by
          clear ht2 ht3
          revert hq
          generalize t / y = q
          intro hq
          rw [wrap_u32]; omega
        have e3 : (0 ≤ ((k : Nat) : Int) ∧ ((k : Nat) : Int) < (da.length : Int)) := by omega
        have e4 : (0 ≤ ((k : Nat) : Int) ∧ ((k : Nat) : Int) < (N : Int)) := by omega
        have hy0 : ¬ ((y : Nat) : Int) = 0 := by omega
        have ho : IntKind.u64.wrap (((BitVec.ofInt (IntKind.bits .u64) ((4294967296 * r : Nat) : Int) ||| BitVec.ofInt (IntKind.bits .u64) ((d : Nat) : Int)).toNat : Nat) : Int) = ((t : Nat) : Int) := by rw [ht]; exact or_half (by omega) (by omega)
        (repeat refine Ex.assoc ?_); refine Ex.step (m := 0) (by simp (config := {decide := true}) only [RS, Nat.reduceAdd, g0, g7, g8, shl32 (show r < 4294967296 by omega), tSl, tU32, tU64, hU32, sU32, aU32, e3, Int.toNat_natCast, hga, ← hd', w1, ho]; rfl) ?_
        have hp : ∀ nx, putCells ⟨h'.m, nx⟩ (h.nx + 4) (0 + k * 1) [.int .u32 ((t / y : Nat) : Int)] = some ⟨h'.m.set (h.nx + 4) (.row (u32s (out.set k (t / y))) false), nx⟩ := fun nx =>
          putCells_u32 (h := ⟨h'.m, nx⟩) (by simp only [h6, if_true]) (by omega)
        (repeat refine Ex.assoc ?_); refine Ex.step (m := 0) (by simp (config := {decide := true}) only [RS, Nat.reduceAdd, g1, g6, g8, hy0, quo_u64 ht3, w2, tSl, tU32, tU64, hU32, sU32, e4, Int.toNat_natCast, hp]; rfl) ?_
        refine Ex.last (m := 0) (by simp (config := {decide := true}) only [RS, Nat.reduceAdd, g1, hy0, rem_nat]; rfl) ?_
        simp (config := {decide := true}) only [thenK, blockK, ite_true, ite_false, if_true, if_false]
        have e5 : IntKind.i64.wrap (((k : Nat) : Int) - 1) = (k : Int) - 1 := by rw [wrap_i64] <;> omega
        refine Ex.last (m := 0) (by simp (config := {decide := true}) only [RS, Nat.reduceAdd, g8, e5]; rfl) ?_
        simp (config := {decide := true}) only [thenK, blockK, ite_true, ite_false, if_true, if_false]
        have hdr := digVal_drop hkl
        rw [← hd'] at hdr
        have hdm := Nat.div_add_mod (digVal (da.drop (k + 1))) y
        rw [← hr'] at hdm
        obtain ⟨Q, hQ⟩ : ∃ Q, Q = digVal (da.drop (k + 1)) / y := ⟨_, rfl⟩
        rw [← hQ] at hdm h4
        have hV : digVal (da.drop k) = t + y * (4294967296 * Q) := by
          rw [hdr, ← hdm, ht, Nat.mul_add, ← Nat.mul_assoc, ← Nat.mul_assoc, Nat.mul_comm 4294967296 y]; omega
        refine ⟨k, Nat.lt_succ_self k, out.set k (t / y), by omega, by simpa using h2, small_set h3 hq k, ?_, by simp (config := {decide := true}) only [RS, Nat.reduceAdd, g0], by simp (config := {decide := true}) only [RS, Nat.reduceAdd, g1], by simp (config := {decide := true}) only [RS, Nat.reduceAdd, g6], ?_, by simp (config := {decide := true}) only [RS, Nat.reduceAdd], (by first | omega | (simp only [Nat.add_assoc]; omega) | (dsimp only; omega)), fun b => ?_⟩
        · rw [digVal_drop (by simpa using (by omega : k < out.length)), drop_set_above, dig_set_same (by omega), h4, hV, Nat.add_mul_div_left _ _ hy]
        · simp (config := {decide := true}) only [RS, Nat.reduceAdd]
          rw [hV, Nat.add_mul_mod_self_left]
        · simp only [PT.get_set, h6]
          split <;> rfl
    · refine ⟨List.replicate N 0, Nat.le_refl _, by simp, small_rep N, ?_, by simp (config := {decide := true}) only [RS, Nat.reduceAdd], by simp (config := {decide := true}) only [RS, Nat.reduceAdd], by simp (config := {decide := true}) only [RS, Nat.reduceAdd], ?_, by simp (config := {decide := true}) only [RS, Nat.reduceAdd], (by first | omega | (simp only [Nat.add_assoc]; omega) | (dsimp only; omega)), ?_⟩
      · rw [List.drop_of_length_le (by simp), List.drop_of_length_le (by omega)]; simp [digVal]
      · simp (config := {decide := true}) only [RS, Nat.reduceAdd]
        rw [List.drop_of_length_le (by omega)]; simp [digVal]
      · intro b
        simp only [PT.get_set]
  · rintro env h' ⟨out, h1, h2, h3, g6, g7, h5, h6⟩
    (repeat refine Ex.assoc ?_); refine Ex.step (m := 0) (by simp (config := {decide := true}) only [RS, Nat.reduceAdd, g6, g7]; rfl) ?_
    refine Ex.ret ⟨trivial, _, by simp (config := {decide := true}) only [RS, Nat.reduceAdd]; rfl, ?_⟩
    simp (config := {decide := true}) only [RS, Nat.reduceAdd]
    exact ⟨h.nx + 4, out, by rw [hN], by omega, (by first | omega | (simp only [Nat.add_assoc]; omega) | (dsimp only; omega)), h6, by omega, h2, h3⟩
end Go.Vk
set_option linter.unusedSimpArgs false
set_option linter.unusedVariables false
set_option maxRecDepth 100000
set_option maxHeartbeats 4000000
namespace Go.Vk
open Go.Proofs (Tryz.prog)
theorem or_low {c r m : Nat} (hc : c < 2 ^ r) (hm : 2 ^ r * m < 4294967296) (hr : r < 32) :
    IntKind.u32.wrap (((BitVec.ofInt (IntKind.bits .u32) ((c : Nat) : Int) ||| BitVec.ofInt (IntKind.bits .u32) ((2 ^ r * m : Nat) : Int)).toNat : Nat) : Int) = ((c + 2 ^ r * m : Nat) : Int) := by
  have e : IntKind.bits .u32 = 32 := rfl
  have h2 : 2 ^ r ≤ 2 ^ 31 := Nat.pow_le_pow_right (by omega) (by omega)
  have hc2 : c < 4294967296 := by omega
  rw [e, BitVec.ofInt_natCast, BitVec.ofInt_natCast, BitVec.toNat_or, BitVec.toNat_ofNat, BitVec.toNat_ofNat, Nat.mod_eq_of_lt (by omega), Nat.mod_eq_of_lt (by omega)]
  have h1 := Nat.shiftLeft_add_eq_or_of_lt hc m
  rw [Nat.shiftLeft_eq, Nat.mul_comm m] at h1
  rw [Nat.or_comm, ← h1]
  have h3 : 2 ^ r * m + c < 4294967296 := by
    have h4 : (2 ^ r * m + c) < 2 ^ 32 := by
      rw [h1]
      exact Nat.or_lt_two_pow (by omega) (by omega)
    omega
  rw [wrap_u32]; omega
theorem shl_u64 {x r : Nat} (hx : x < 4294967296) (hr : r < 32) : IntKind.u64.wrap (((x : Nat) : Int) * 2 ^ (min r (IntKind.bits .u64))) = ((x * 2 ^ r : Nat) : Int) := by
  have e : min r (IntKind.bits .u64) = r := by
    have : IntKind.bits .u64 = 64 := rfl
    omega
  have h2 : x * 2 ^ r ≤ 4294967296 * 2 ^ 31 := Nat.mul_le_mul (by omega) (Nat.pow_le_pow_right (by omega) (by omega))
  have h3 : ((x : Nat) : Int) * 2 ^ r = ((x * 2 ^ r : Nat) : Int) := by simp
  rw [e, h3]
  generalize x * 2 ^ r = z at *
  rw [wrap_u64] <;> omega
theorem low_part {x r : Nat} (hr : r < 32) : x * 2 ^ r % 4294967296 = 2 ^ r * (x % 2 ^ (32 - r)) := by
  rw [show (4294967296 : Nat) = 2 ^ r * 2 ^ (32 - r) by rw [← Nat.pow_add, show r + (32 - r) = 32 by omega], Nat.mul_comm x, Nat.mul_mod_mul_left]
theorem high_part {x r : Nat} (hx : x < 4294967296) (hr : r < 32) : x * 2 ^ r / 4294967296 < 2 ^ r := by
  rw [Nat.div_lt_iff_lt_mul (by omega), Nat.mul_comm]
  exact Nat.mul_lt_mul_of_pos_left hx (Nat.two_pow_pos r)

theorem fn_up : fnE Tryz.prog 205 = some ⟨(Go.Proofs.Tryz.f205.body).getD .skip, 55, [.tmp 4]⟩ := by kernel_rfl
theorem up_run {hk : Hooks} (B : Base hk) (hn : ∀ a h, hk 205 a h = none) {h : Hp} (hf : h.fr) {va : AV} {da ba : List Nat} (ha : NumAt h va da ba) (sa : small da) (la : da.length < 10000000000) {k : Nat} (hk' : k < 10000000000000) :
    ExF Tryz.prog hk 205 [va, .int .i64 k] h fun r' h1 => Made h h1 r' (digVal da * 2 ^ k) [] := by
  obtain ⟨ra, ha1, ha2⟩ := ha
  refine ExF.body fn_up (hn _ _) (by simp) ?_
  simp only [Go.Proofs.Tryz.f205, Option.getD_some]
  have ca : ∀ m nx, callF Tryz.prog hk m 123 [va] ⟨h.m, nx⟩ = some (ra, ⟨h.m, nx⟩) := fun m nx => callF_hk (B.digits _ _ _ ha1)
  (repeat refine Ex.assoc ?_); refine Ex.step (m := 0) (by simp (config := {decide := true}) only [RS, Nat.reduceAdd]; rfl) ?_
  (repeat refine Ex.assoc ?_); refine Ex.step (m := 0) (by simp (config := {decide := true}) only [RS, Nat.reduceAdd, fn_digits, ca]; rfl) ?_
  have hfr : h.m.get (h.nx + 10) = none := hf _ (by omega)
  obtain ⟨s, hs⟩ : ∃ s, s = k / 32 := ⟨_, rfl⟩
  obtain ⟨r, hr⟩ : ∃ r, r = k % 32 := ⟨_, rfl⟩
  have hr32 : r < 32 := by omega
  have q1 : IntKind.i64.wrap (((k : Nat) : Int).tdiv 32) = (s : Nat) := by
    rw [show ((k : Nat) : Int).tdiv 32 = ((k / 32 : Nat) : Int) from (Int.ofNat_tdiv k 32).symm, wrap_i64] <;> omega
  have q2 : ((k : Nat) : Int).tmod 32 = (r : Nat) := by
    rw [hr]; exact (Int.ofNat_tmod k 32).symm
  obtain ⟨N, hN⟩ : ∃ N, N = da.length + s + 1 := ⟨_, rfl⟩
  have q3 : IntKind.i64.wrap (((da.length : Nat) : Int) + ((s : Nat) : Int)) = ((da.length + s : Nat) : Int) := by rw [wrap_i64] <;> omega
  have q4 : IntKind.i64.wrap (((da.length + s : Nat) : Int) + 1) = (N : Nat) := by rw [wrap_i64] <;> omega
  have hmk : ∀ id, _ := fun id => mk_u32 id N (by have hm : most = 1099511627776 := rfl; omega)
  (repeat refine Ex.assoc ?_); refine Ex.step (m := 0) (by simp (config := {decide := true}) only [RS, Nat.reduceAdd, ha2.len, q1, q3, q4, hmk, fresh, hfr]; rfl) ?_
  (repeat refine Ex.assoc ?_); refine Ex.step (m := 0) (by simp (config := {decide := true}) only [RS, Nat.reduceAdd, ha2.len]; rfl) ?_
  have hne : ∀ b ∈ ba, b ≠ h.nx + 10 := fun b hb => by have := ha2.fresh hf hb; omega
  refine Ex.cut (fun env h' => ∃ out : List Nat, out.length = N ∧ small out ∧ digVal out = digVal da * 2 ^ k ∧ env.get 6 = some (.slice (h.nx + 10) 0 N N true 1) ∧ h.nx + 12 ≤ h'.nx ∧ ∀ b, h'.m.get b = if b = h.nx + 10 then some (.row (u32s out) false) else h.m.get b) (Ex.block ?_) ?_
  · refine Ex.loop (fun j env h' => ∃ (i : Nat) (out : List Nat), j = da.length - i ∧ i ≤ da.length ∧ out.length = N ∧ small out ∧ dig out (i + s) < 2 ^ r ∧ digVal (out.take (i + s + 1)) = digVal (da.take i) * 2 ^ k ∧
      env.get 1 = some (.int .i64 k) ∧ env.get 6 = some (.slice (h.nx + 10) 0 N N true 1) ∧ env.get 19 = some ra ∧ env.get 20 = some (.int .i64 da.length) ∧ env.get 21 = some (.int .i64 i) ∧
      h.nx + 12 ≤ h'.nx ∧ ∀ b, h'.m.get b = if b = h.nx + 10 then some (.row (u32s out) false) else h.m.get b) ?_ da.length _ _ ?_
    · rintro j env h' ⟨i, out, rfl, h1, h2, h3, hc, h4, g1, g6, g19, g20, g21, h5, h6⟩
      (repeat refine Ex.assoc ?_); refine Ex.step (m := 0) (by simp (config := {decide := true}) only [RS, Nat.reduceAdd, g20, g21]; rfl) ?_
      by_cases hi : i < da.length
      · have hi1 : ((i : Nat) : Int) < (da.length : Int) := by omega
        refine Ex.ifT (by simp (config := {decide := true}) only [RS, Nat.reduceAdd, hi1]) (Ex.skipS ?_)
        refine Ex.seq (Ex.block ?_)
        have da' : DigAt h' ra da ba := ha2.ext fun b hb => by rw [h6, if_neg (hne b hb)]
        obtain ⟨ab, ao, ac, ae, rfl, hga⟩ := da'.slice hi
        have e3 : (0 ≤ ((i : Nat) : Int) ∧ ((i : Nat) : Int) < (da.length : Int)) := by omega
        have lx := dig_lt sa i
        obtain ⟨x, hx⟩ : ∃ x, x = dig da i := ⟨_, rfl⟩
        rw [← hx] at lx
        (repeat refine Ex.assoc ?_); refine Ex.step (m := 0) (by simp (config := {decide := true}) only [RS, Nat.reduceAdd, g19, g21, tSl, tU32, hU32, sU32, aU32, e3, Int.toNat_natCast, hga, ← hx]; rfl) ?_
        have w0 : IntKind.u64.wrap ((x : Nat) : Int) = x := by rw [wrap_u64] <;> omega
        have w1 : ¬ ((r : Nat) : Int) < 0 := by omega
        (repeat refine Ex.assoc ?_); refine Ex.step (m := 0) (by simp (config := {decide := true}) only [RS, Nat.reduceAdd, g1, tU32, tU64, w0, q2, w1, Int.toNat_natCast, shl_u64 lx hr32]; rfl) ?_
        obtain ⟨c, hcd⟩ : ∃ c, c = dig out (i + s) := ⟨_, rfl⟩
        have hgo : ∀ nx, getCells ⟨h'.m, nx⟩ (h.nx + 10) (0 + (i + s) * 1) 1 = some [.int .u32 (c : Nat)] := fun nx => by
          rw [hcd]; exact row_get (h := ⟨h'.m, nx⟩) (by simp only [h6, if_true]) (by omega)
        rw [← hcd] at hc
        obtain ⟨m, hm⟩ : ∃ m, m = x % 2 ^ (32 - r) := ⟨_, rfl⟩
        have hlow : x * 2 ^ r % 4294967296 = 2 ^ r * m := by rw [hm]; exact low_part hr32
        have hlow2 : 2 ^ r * m < 4294967296 := by rw [← hlow]; exact Nat.mod_lt _ (by omega)
        have hhigh := high_part lx hr32
        have hrp : 2 ^ r ≤ 2 ^ 31 := Nat.pow_le_pow_right (by omega) (by omega)
        have w2 : IntKind.u32.wrap ((x * 2 ^ r : Nat) : Int) = ((2 ^ r * m : Nat) : Int) := by
          rw [wrap_u32, ← hlow]; exact (Int.natCast_emod (x * 2 ^ r) 4294967296).symm
        obtain ⟨u, hu⟩ : ∃ u, u = x * 2 ^ r / 4294967296 := ⟨_, rfl⟩
        rw [← hu] at hhigh
        have w3 : IntKind.u32.wrap ((u : Nat) : Int) = (u : Nat) := by rw [wrap_u32]; omega
        have w4 : IntKind.i64.wrap (((i : Nat) : Int) + ((s : Nat) : Int)) = ((i + s : Nat) : Int) := by rw [wrap_i64] <;> omega
        obtain ⟨p, hp⟩ : ∃ p, p = i + s + 1 := ⟨_, rfl⟩
        have w5 : IntKind.i64.wrap (((i + s : Nat) : Int) + 1) = ((p : Nat) : Int) := by rw [wrap_i64] <;> omega
        have e4 : (0 ≤ ((i + s : Nat) : Int) ∧ ((i + s : Nat) : Int) < (N : Int)) := by omega
        have e5 : (0 ≤ ((p : Nat) : Int) ∧ ((p : Nat) : Int) < (N : Int)) := by omega
        have hcm : c + 2 ^ r * m < 4294967296 := by
          have := or_low hc hlow2 hr32
          rw [wrap_u32] at this
          omega
        have hp1 : ∀ nx, putCells ⟨h'.m, nx⟩ (h.nx + 10) (0 + (i + s) * 1) [.int .u32 ((c + 2 ^ r * m : Nat) : Int)] = some ⟨h'.m.set (h.nx + 10) (.row (u32s (out.set (i + s) (c + 2 ^ r * m))) false), nx⟩ := fun nx =>
          putCells_u32 (h := ⟨h'.m, nx⟩) (by simp only [h6, if_true]) (by omega)
        have hp2 : ∀ nx, putCells ⟨h'.m.set (h.nx + 10) (.row (u32s (out.set (i + s) (c + 2 ^ r * m))) false), nx⟩ (h.nx + 10) (0 + p * 1) [.int .u32 ((u : Nat) : Int)] =
            some ⟨(h'.m.set (h.nx + 10) (.row (u32s (out.set (i + s) (c + 2 ^ r * m))) false)).set (h.nx + 10) (.row (u32s ((out.set (i + s) (c + 2 ^ r * m)).set p u)) false), nx⟩ := fun nx =>
          putCells_u32 (h := ⟨h'.m.set (h.nx + 10) (.row (u32s (out.set (i + s) (c + 2 ^ r * m))) false), nx⟩) (by simp only [PT.get_set, if_true]) (by simp; omega)
        (repeat refine Ex.assoc ?_); refine Ex.step (m := 0) (by simp (config := {decide := true}) only [RS, Nat.reduceAdd, g1, g6, q1, w2, w4, tSl, tU32, tU64, hU32, sU32, aU32, e4, Int.toNat_natCast, hgo, or_low hc hlow2 hr32, hp1]; rfl) ?_
        refine Ex.last (m := 0) (by simp (config := {decide := true}) only [RS, Nat.reduceAdd, g1, g6, q1, w3, w4, w5, shr32, ← hu, tSl, tU32, tU64, hU32, sU32, aU32, e5, Int.toNat_natCast, hp2]; rfl) ?_
        simp (config := {decide := true}) only [thenK, blockK, ite_true, ite_false, if_true, if_false]
        have w6 : IntKind.i64.wrap (((i : Nat) : Int) + 1) = ((i + 1 : Nat) : Int) := by rw [wrap_i64] <;> omega
        refine Ex.last (m := 0) (by simp (config := {decide := true}) only [RS, Nat.reduceAdd, g21, w6]; rfl) ?_
        simp (config := {decide := true}) only [thenK, blockK, ite_true, ite_false, if_true, if_false]
        refine ⟨da.length - (i + 1), by omega, i + 1, (out.set (i + s) (c + 2 ^ r * m)).set p u, rfl, by omega, by simpa using h2, small_set (small_set h3 hcm _) (by omega) _, ?_, ?_, by simp (config := {decide := true}) only [RS, Nat.reduceAdd, g1], by simp (config := {decide := true}) only [RS, Nat.reduceAdd, g6], by simp (config := {decide := true}) only [RS, Nat.reduceAdd, g19], by simp (config := {decide := true}) only [RS, Nat.reduceAdd, g20], by simp (config := {decide := true}) only [RS, Nat.reduceAdd], (by first | omega | (simp only [Nat.add_assoc]; omega) | (dsimp only; omega)), fun b => ?_⟩
        · rw [show i + 1 + s = p by omega, dig_set_same (by simp; omega)]; exact hhigh
        · rw [show i + 1 + s + 1 = p + 1 by omega, take_set (by simp; omega), digVal_append, List.length_take, Nat.min_eq_left (by simp; omega), hp, take_set (by omega), digVal_append, List.length_take, Nat.min_eq_left (by omega), digVal_take_succ, ← hx, Nat.add_mul, ← h4, digVal_take_succ, ← hcd]
          simp only [digVal, Nat.mul_zero, Nat.add_zero]
          have hk2 : 2 ^ k = 2 ^ r * 4294967296 ^ s := by
            rw [show (4294967296 : Nat) = 2 ^ 32 by decide, ← Nat.pow_mul, ← Nat.pow_add]; congr 1; omega
          have hxx : 2 ^ r * m + 4294967296 * u = x * 2 ^ r := by rw [← hlow, hu]; exact Nat.mod_add_div _ _
          have t1 : 4294967296 ^ i * x * 2 ^ k = 4294967296 ^ (i + s) * (2 ^ r * m) + 4294967296 ^ (i + s + 1) * u := by
            rw [hk2, Nat.pow_succ, Nat.mul_assoc (4294967296 ^ (i + s)), ← Nat.mul_add, hxx, Nat.pow_add]
            rw [Nat.mul_assoc, Nat.mul_assoc, Nat.mul_comm (2 ^ r), ← Nat.mul_assoc x, Nat.mul_comm x, Nat.mul_assoc]
          rw [t1, Nat.mul_add]
          omega
        · simp only [PT.get_set, h6]
          split <;> rfl
      · have hi1 : ¬ ((i : Nat) : Int) < (da.length : Int) := by omega
        refine Ex.ifF (by simp (config := {decide := true}) only [RS, Nat.reduceAdd, hi1]) (Ex.exitS ?_)
        simp (config := {decide := true}) only [thenK, blockK, ite_true, ite_false, if_true, if_false]
        have hiN : i = da.length := by omega
        subst hiN
        refine ⟨out, h2, h3, ?_, by simp (config := {decide := true}) only [RS, Nat.reduceAdd, g6], (by first | omega | (simp only [Nat.add_assoc]; omega) | (dsimp only; omega)), h6⟩
        rw [List.take_of_length_le (by omega), List.take_length] at h4
        exact h4
    · refine ⟨0, List.replicate N 0, rfl, by omega, by simp, small_rep N, ?_, ?_, by simp (config := {decide := true}) only [RS, Nat.reduceAdd], by simp (config := {decide := true}) only [RS, Nat.reduceAdd], by simp (config := {decide := true}) only [RS, Nat.reduceAdd], by simp (config := {decide := true}) only [RS, Nat.reduceAdd], by simp (config := {decide := true}) only [RS, Nat.reduceAdd]; rfl, (by first | omega | (simp only [Nat.add_assoc]; omega) | (dsimp only; omega)), ?_⟩
      · have : dig (List.replicate N 0) (0 + s) = 0 := by simp [dig, List.getD_eq_getElem?_getD, List.getElem?_replicate]; split <;> rfl
        rw [this]; exact Nat.two_pow_pos r
      · rw [List.take_replicate, digVal_rep]; simp [digVal]
      · intro b
        simp only [PT.get_set]
  · rintro env h' ⟨out, h1, h2, h3, h4, h5, h6⟩
    have hf' : h'.fr := fun b hb => by
      rw [h6, if_neg (by omega)]; exact hf b (by omega)
    have hgo : ∀ nx, getCells ⟨h'.m, nx⟩ (h.nx + 10) 0 out.length = some (u32s out) := fun nx => by
      unfold getCells
      simp only [h6, if_true]
      rw [if_pos (by simp [u32s])]
      simp only [List.drop_zero]
      rw [List.take_of_length_le (by simp [u32s])]
    obtain ⟨m, r', h1', q1', nb, rfl, q2', q3', q4'⟩ := of_run B.of (h := ⟨h'.m, h'.nx + 3⟩) (fun b hb => hf' b (by simp only at hb; omega)) (b := h.nx + 10) (off := 0) (cap := N) (ex := true) (ds := out) (hgo _) (by omega) (by omega)
    rw [h1] at q1'
    (repeat refine Ex.assoc ?_); refine Ex.step (m := m) (by simp (config := {decide := true}) only [RS, Nat.reduceAdd, h4, fn_of, q1']; rfl) ?_
    refine Ex.ret ⟨trivial, _, by simp (config := {decide := true}) only [RS, Nat.reduceAdd]; rfl, ?_⟩
    simp (config := {decide := true}) only [RS, Nat.reduceAdd]
    rw [← h3]
    refine made_of hf h2 (ob := h.nx + 10) (cap := N) (ex := true) (by omega) (by simp only at q2'; omega) (by omega) (fun b => ?_)
    rw [q4']
    simp only [PT.get_set, h6]
end Go.Vk
set_option linter.unusedSimpArgs false
set_option linter.unusedVariables false
set_option maxRecDepth 100000
set_option maxHeartbeats 4000000
namespace Go.Vk
open Go.Proofs (Tryz.prog)
theorem of_nil_run {hk : Hooks} (hn : ∀ a h, hk 108 a h = none) {h : Hp} (hf : h.fr) {sl : AV} (hsl : sl = .nils ∨ sl = .empty) :
    ExF Tryz.prog hk 108 [sl] h fun r' h1 => Made h h1 r' 0 [] := by
  rcases hsl with rfl | rfl
  · refine ExF.body fn_of (hn _ _) (by simp) ?_
    simp only [Go.Proofs.Tryz.f108, Option.getD_some]
    (repeat refine Ex.assoc ?_); refine Ex.step (m := 0) (by simp (config := {decide := true}) only [RS, Nat.reduceAdd]; rfl) ?_
    (repeat refine Ex.assoc ?_); refine Ex.step (m := 0) (by simp (config := {decide := true}) only [RS, Nat.reduceAdd, tSl, aLen]; rfl) ?_
    refine Ex.cut (fun env h' => env.get 0 = some .nils ∧ env.get 3 = some (.int .i64 0) ∧ h'.m = h.m ∧ h.nx ≤ h'.nx) (Ex.block ?_) ?_
    · refine Ex.loop (fun k env h' => env.get 0 = some .nils ∧ env.get 3 = some (.int .i64 0) ∧ h'.m = h.m ∧ h.nx ≤ h'.nx) ?_ 0 _ _ ?_
      · rintro k env h' ⟨h2, h3, h4, h5⟩
        (repeat refine Ex.assoc ?_); refine Ex.step (m := 0) (by simp (config := {decide := true}) only [RS, Nat.reduceAdd, h2, h3]; rfl) ?_
        refine Ex.ifF (by simp (config := {decide := true}) only [RS, Nat.reduceAdd]) (Ex.exitS ?_)
        simp (config := {decide := true}) only [thenK, blockK, ite_true, ite_false, if_true, if_false]
        exact ⟨by simp (config := {decide := true}) only [RS, Nat.reduceAdd, h2], by simp (config := {decide := true}) only [RS, Nat.reduceAdd, h3], h4, (by first | omega | (simp only [Nat.add_assoc]; omega) | (dsimp only; omega))⟩
      · exact ⟨by simp (config := {decide := true}) only [RS, Nat.reduceAdd], by simp (config := {decide := true}) only [RS, Nat.reduceAdd], rfl, (by first | omega | (simp only [Nat.add_assoc]; omega) | (dsimp only; omega))⟩
    · rintro env h' ⟨h2, h3, h4, h5⟩
      have e1 : (0 ≤ (0 : Int) ∧ (0 : Int) ≤ ((0 : Nat) : Int)) := by omega
      have hfr : h'.m.get (h'.nx + 4) = none := by rw [h4]; exact hf _ (by omega)
      (repeat refine Ex.assoc ?_); refine Ex.step (m := 0) (by simp (config := {decide := true}) only [RS, Nat.reduceAdd, h2, h3, tSl, hU32, sU32, e1, pNat, zNat, fillA, fresh, hfr]; rfl) ?_
      refine Ex.ret ⟨trivial, _, by simp (config := {decide := true}) only [RS, Nat.reduceAdd]; rfl, ?_⟩
      simp (config := {decide := true}) only [RS, Nat.reduceAdd]
      refine ⟨[], [h'.nx + 4], ⟨h'.nx + 4, 0, _, false, .nils, [], rfl, rfl, by simp only [PT.get_set, if_true]; rfl, rfl, .inl ⟨rfl, rfl, .inl rfl⟩⟩, ⟨fun d hd => (by cases hd), fun d hd => (by cases hd)⟩, rfl, fun b x hb => ?_, fun b hb => ?_⟩
      · have : b ≠ h'.nx + 4 := fun e => by subst e; rw [h4] at hfr; rw [hfr] at hb; cases hb
        simp only [PT.get_set, if_neg this, h4]; exact hb
      · simp only [List.mem_singleton] at hb; subst hb
        exact .inl ⟨by rw [← h4]; exact hfr, _, by simp only [PT.get_set, if_true]; rfl, rfl⟩
  · refine ExF.body fn_of (hn _ _) (by simp) ?_
    simp only [Go.Proofs.Tryz.f108, Option.getD_some]
    (repeat refine Ex.assoc ?_); refine Ex.step (m := 0) (by simp (config := {decide := true}) only [RS, Nat.reduceAdd]; rfl) ?_
    (repeat refine Ex.assoc ?_); refine Ex.step (m := 0) (by simp (config := {decide := true}) only [RS, Nat.reduceAdd, tSl, aLen]; rfl) ?_
    refine Ex.cut (fun env h' => env.get 0 = some .empty ∧ env.get 3 = some (.int .i64 0) ∧ h'.m = h.m ∧ h.nx ≤ h'.nx) (Ex.block ?_) ?_
    · refine Ex.loop (fun k env h' => env.get 0 = some .empty ∧ env.get 3 = some (.int .i64 0) ∧ h'.m = h.m ∧ h.nx ≤ h'.nx) ?_ 0 _ _ ?_
      · rintro k env h' ⟨h2, h3, h4, h5⟩
        (repeat refine Ex.assoc ?_); refine Ex.step (m := 0) (by simp (config := {decide := true}) only [RS, Nat.reduceAdd, h2, h3]; rfl) ?_
        refine Ex.ifF (by simp (config := {decide := true}) only [RS, Nat.reduceAdd]) (Ex.exitS ?_)
        simp (config := {decide := true}) only [thenK, blockK, ite_true, ite_false, if_true, if_false]
        exact ⟨by simp (config := {decide := true}) only [RS, Nat.reduceAdd, h2], by simp (config := {decide := true}) only [RS, Nat.reduceAdd, h3], h4, (by first | omega | (simp only [Nat.add_assoc]; omega) | (dsimp only; omega))⟩
      · exact ⟨by simp (config := {decide := true}) only [RS, Nat.reduceAdd], by simp (config := {decide := true}) only [RS, Nat.reduceAdd], rfl, (by first | omega | (simp only [Nat.add_assoc]; omega) | (dsimp only; omega))⟩
    · rintro env h' ⟨h2, h3, h4, h5⟩
      have e1 : (0 ≤ (0 : Int) ∧ (0 : Int) ≤ ((0 : Nat) : Int)) := by omega
      have hfr : h'.m.get (h'.nx + 4) = none := by rw [h4]; exact hf _ (by omega)
      (repeat refine Ex.assoc ?_); refine Ex.step (m := 0) (by simp (config := {decide := true}) only [RS, Nat.reduceAdd, h2, h3, tSl, hU32, sU32, e1, pNat, zNat, fillA, fresh, hfr]; rfl) ?_
      refine Ex.ret ⟨trivial, _, by simp (config := {decide := true}) only [RS, Nat.reduceAdd]; rfl, ?_⟩
      simp (config := {decide := true}) only [RS, Nat.reduceAdd]
      refine ⟨[], [h'.nx + 4], ⟨h'.nx + 4, 0, _, false, .empty, [], rfl, rfl, by simp only [PT.get_set, if_true]; rfl, rfl, .inl ⟨rfl, rfl, .inr rfl⟩⟩, ⟨fun d hd => (by cases hd), fun d hd => (by cases hd)⟩, rfl, fun b x hb => ?_, fun b hb => ?_⟩
      · have : b ≠ h'.nx + 4 := fun e => by subst e; rw [h4] at hfr; rw [hfr] at hb; cases hb
        simp only [PT.get_set, if_neg this, h4]; exact hb
      · simp only [List.mem_singleton] at hb; subst hb
        exact .inl ⟨by rw [← h4]; exact hfr, _, by simp only [PT.get_set, if_true]; rfl, rfl⟩
theorem getCells_drop {h : Hp} {b off s : Nat} {ds : List Nat} (hg : getCells h b off ds.length = some (u32s ds)) (hs : s ≤ ds.length) : getCells h b (off + s) (ds.drop s).length = some (u32s (ds.drop s)) := by
  obtain ⟨all, ro, hb, hl, hc⟩ := getCells_some hg
  unfold getCells
  rw [hb]
  simp only [List.length_drop]
  rw [if_pos (by omega)]
  simp only [Option.some.injEq]
  unfold u32s at hc ⊢
  rw [List.map_drop, hc, List.drop_take, List.drop_drop]
theorem shr_u64 {z r : Nat} (hr : r < 32) : ((z : Nat) : Int).fdiv (2 ^ (min r (IntKind.bits .u64))) = ((z / 2 ^ r : Nat) : Int) := by
  have e : min r (IntKind.bits .u64) = r := by
    have : IntKind.bits .u64 = 64 := rfl
    omega
  rw [e, Int.fdiv_eq_ediv_of_nonneg _ (by exact Int.le_of_lt (Int.pow_pos (by omega)))]
  have : ((2 : Int) ^ r) = ((2 ^ r : Nat) : Int) := by simp
  rw [this]; rfl
/-- A digit of what was shifted. -/
theorem down_digit {a b W r : Nat} (ha : a < 4294967296) (hr : r < 32) (hW : W % 2 ^ r = b % 2 ^ r) : (a + 4294967296 * W) / 2 ^ r = (a + 4294967296 * b) / 2 ^ r % 4294967296 + 4294967296 * (W / 2 ^ r) := by
  have hB : (4294967296 : Nat) = 2 ^ r * 2 ^ (32 - r) := by rw [← Nat.pow_add, show r + (32 - r) = 32 by omega]
  have hp : 0 < 2 ^ r := Nat.two_pow_pos r
  have h1 : ∀ x, (a + 4294967296 * x) / 2 ^ r = a / 2 ^ r + 2 ^ (32 - r) * x := fun x => by
    rw [hB, Nat.mul_assoc, Nat.add_mul_div_left _ _ hp]
  rw [h1, h1]
  have h2 : a / 2 ^ r < 2 ^ (32 - r) := by
    rw [Nat.div_lt_iff_lt_mul hp, Nat.mul_comm, ← hB]; exact ha
  have h3 : (a / 2 ^ r + 2 ^ (32 - r) * b) % 4294967296 = a / 2 ^ r + 2 ^ (32 - r) * (b % 2 ^ r) := by
    have e1 : a / 2 ^ r + 2 ^ (32 - r) * b = (a / 2 ^ r + 2 ^ (32 - r) * (b % 2 ^ r)) + 4294967296 * (b / 2 ^ r) := by
      have := Nat.mod_add_div b (2 ^ r)
      rw [hB, Nat.mul_comm (2 ^ r), Nat.mul_assoc, Nat.add_assoc, ← Nat.mul_add, this]
    rw [e1, Nat.add_mul_mod_self_left]
    refine Nat.mod_eq_of_lt ?_
    have h4 : b % 2 ^ r < 2 ^ r := Nat.mod_lt _ hp
    have h5 : 2 ^ (32 - r) * (b % 2 ^ r + 1) ≤ 2 ^ (32 - r) * 2 ^ r := Nat.mul_le_mul_left _ h4
    rw [Nat.mul_comm _ (2 ^ r), ← hB, Nat.mul_succ] at h5
    omega
  rw [h3, ← hW]
  have := Nat.mod_add_div W (2 ^ r)
  have h6 : 2 ^ (32 - r) * W = 2 ^ (32 - r) * (W % 2 ^ r) + 4294967296 * (W / 2 ^ r) := by
    rw [hB, Nat.mul_comm (2 ^ r), Nat.mul_assoc, ← Nat.mul_add, this]
  omega
theorem drop_mod {ds : List Nat} {i r : Nat} (hr : r < 32) : digVal (ds.drop i) % 2 ^ r = dig ds i % 2 ^ r := by
  rcases Nat.lt_or_ge i ds.length with h | h
  · rw [digVal_drop h, show (4294967296 : Nat) = 2 ^ r * 2 ^ (32 - r) by rw [← Nat.pow_add, show r + (32 - r) = 32 by omega], Nat.mul_assoc, Nat.add_mul_mod_self_left]
  · rw [List.drop_of_length_le h, dig_above h]; simp [digVal]
end Go.Vk
set_option linter.unusedSimpArgs false
set_option linter.unusedVariables false
set_option maxRecDepth 100000
set_option maxHeartbeats 4000000
namespace Go.Vk
open Go.Proofs (Tryz.prog)
theorem fn_down : fnE Tryz.prog 207 = some ⟨(Go.Proofs.Tryz.f207.body).getD .skip, 47, [.tmp 4]⟩ := by kernel_rfl
theorem down_run {hk : Hooks} (B : Base hk) (hn : ∀ a h, hk 207 a h = none) {h : Hp} (hf : h.fr) {va : AV} {da ba : List Nat} (ha : NumAt h va da ba) (sa : small da) (la : da.length < 10000000000) {k : Nat} (hk' : k < 10000000000000) :
    ExF Tryz.prog hk 207 [va, .int .i64 k] h fun r' h1 => Made h h1 r' (digVal da / 2 ^ k) [] := by
  obtain ⟨ra, ha1, ha2⟩ := ha
  refine ExF.body fn_down (hn _ _) (by simp) ?_
  simp only [Go.Proofs.Tryz.f207, Option.getD_some]
  have ca : ∀ m nx, callF Tryz.prog hk m 123 [va] ⟨h.m, nx⟩ = some (ra, ⟨h.m, nx⟩) := fun m nx => callF_hk (B.digits _ _ _ ha1)
  (repeat refine Ex.assoc ?_); refine Ex.step (m := 0) (by simp (config := {decide := true}) only [RS, Nat.reduceAdd]; rfl) ?_
  (repeat refine Ex.assoc ?_); refine Ex.step (m := 0) (by simp (config := {decide := true}) only [RS, Nat.reduceAdd, fn_digits, ca]; rfl) ?_
  obtain ⟨s, hs⟩ : ∃ s, s = k / 32 := ⟨_, rfl⟩
  obtain ⟨r, hr⟩ : ∃ r, r = k % 32 := ⟨_, rfl⟩
  have hr32 : r < 32 := by omega
  have q1 : IntKind.i64.wrap (((k : Nat) : Int).tdiv 32) = (s : Nat) := by
    rw [show ((k : Nat) : Int).tdiv 32 = ((k / 32 : Nat) : Int) from (Int.ofNat_tdiv k 32).symm, wrap_i64] <;> omega
  have q2 : ((k : Nat) : Int).tmod 32 = (r : Nat) := by
    rw [hr]; exact (Int.ofNat_tmod k 32).symm
  have hk2 : 2 ^ k = 4294967296 ^ s * 2 ^ r := by
    rw [show (4294967296 : Nat) = 2 ^ 32 by decide, ← Nat.pow_mul, ← Nat.pow_add]; congr 1; omega
  (repeat refine Ex.assoc ?_); refine Ex.step (m := 0) (by simp (config := {decide := true}) only [RS, Nat.reduceAdd, ha2.len, q1]; rfl) ?_
  by_cases hsl : s ≥ da.length
  · have c1 : ((s : Nat) : Int) ≥ ((da.length : Nat) : Int) := by omega
    refine Ex.ifT (by simp (config := {decide := true}) only [RS, Nat.reduceAdd, c1]) ?_
    obtain ⟨m, r', h1', p1, p2⟩ := of_nil_run B.of (h := ⟨h.m, h.nx + 11⟩) (fun b hb => hf b (by simp only at hb; omega)) (.inl rfl)
    (repeat refine Ex.assoc ?_); refine Ex.step (m := m) (by simp (config := {decide := true}) only [RS, Nat.reduceAdd, fn_of, p1]; rfl) ?_
    refine Ex.retS ⟨trivial, _, by simp (config := {decide := true}) only [RS, Nat.reduceAdd]; rfl, ?_⟩
    simp (config := {decide := true}) only [RS, Nat.reduceAdd]
    have hlt : digVal da < 2 ^ k := by
      have := digVal_lt sa
      have t1 : 4294967296 ^ da.length ≤ 4294967296 ^ s := Nat.pow_le_pow_right (by omega) hsl
      have t2 : 4294967296 ^ s * 1 ≤ 4294967296 ^ s * 2 ^ r := Nat.mul_le_mul_left _ (Nat.two_pow_pos r)
      omega
    rw [Nat.div_eq_of_lt hlt]
    exact p2
  · have c1 : ¬ ((s : Nat) : Int) ≥ ((da.length : Nat) : Int) := by omega
    refine Ex.ifF (by simp (config := {decide := true}) only [RS, Nat.reduceAdd, c1]) (Ex.skipS ?_)
    rcases ha2 with ⟨rfl, _⟩ | ⟨ab, ao, ac, ae, rfl, rfl, hga, hcap⟩
    · simp at hsl
    have e1 : (0 ≤ ((s : Nat) : Int) ∧ ((s : Nat) : Int) ≤ ((da.length : Nat) : Int)) := by omega
    have e2 : (da.length.ble ac) = true := Nat.ble_eq_true_of_le hcap
    obtain ⟨e, he⟩ : ∃ e, e = da.drop s := ⟨_, rfl⟩
    obtain ⟨M, hM⟩ : ∃ M, M = e.length := ⟨_, rfl⟩
    have hM2 : M = da.length - s := by rw [hM, he, List.length_drop]
    have se : small e := fun d hd => sa d (by rw [he] at hd; exact List.mem_of_mem_drop hd)
    refine Ex.cut (fun env h' => ∃ sl, env.get 5 = some sl ∧ DigAt h sl e [ab] ∧ env.get 1 = some (.int .i64 k) ∧ h' = ⟨h.m, h.nx + 14⟩) ?_ ?_
    · by_cases hs0 : s = 0
      · refine Ex.last (m := 0) (by simp (config := {decide := true}) only [RS, Nat.reduceAdd, q1, tSl, hU32, sU32, e1, e2, Int.toNat_natCast, hs0]; rfl) ?_
        simp (config := {decide := true}) only [thenK, blockK, ite_true, ite_false, if_true, if_false]
        refine ⟨_, by simp (config := {decide := true}) only [RS, Nat.reduceAdd]; rfl, .inr ⟨ab, ao, ac, ae, rfl, by rw [he, hs0, List.drop_zero], ?_, by rw [he, List.length_drop]; omega⟩, by simp (config := {decide := true}) only [RS, Nat.reduceAdd], (by trivial)⟩
        have := getCells_drop hga (Nat.le_of_lt (Nat.lt_of_not_ge hsl))
        rw [he, hs0]; rw [hs0] at this; exact this
      · have e3 : s < ac := by omega
        refine Ex.last (m := 0) (by simp (config := {decide := true}) only [RS, Nat.reduceAdd, q1, tSl, hU32, sU32, e1, e2, Int.toNat_natCast, hs0, e3]; rfl) ?_
        simp (config := {decide := true}) only [thenK, blockK, ite_true, ite_false, if_true, if_false]
        refine ⟨_, by simp (config := {decide := true}) only [RS, Nat.reduceAdd]; rfl, .inr ⟨ab, ao + s * 1, ac - s, ae, rfl, by rw [he, List.length_drop], ?_, by rw [he, List.length_drop]; omega⟩, by simp (config := {decide := true}) only [RS, Nat.reduceAdd], (by trivial)⟩
        rw [he, Nat.mul_one]; exact getCells_drop hga (Nat.le_of_lt (Nat.lt_of_not_ge hsl))
    · rintro env h' ⟨re, g5, de, g1, rfl⟩
      have hfr : h.m.get (h.nx + 16) = none := hf _ (by omega)
      have hmk : ∀ id, _ := fun id => mk_u32 id M (by have hm : most = 1099511627776 := rfl; omega)
      (repeat refine Ex.assoc ?_); refine Ex.step (m := 0) (by simp (config := {decide := true}) only [RS, Nat.reduceAdd, g5, de.len, ← hM, hmk, fresh, hfr]; rfl) ?_
      (repeat refine Ex.assoc ?_); refine Ex.step (m := 0) (by simp (config := {decide := true}) only [RS, Nat.reduceAdd, aLen, tSl]; rfl) ?_
      have hne : ∀ b ∈ [ab], b ≠ h.nx + 16 := fun b hb => by have := de.fresh hf hb; omega
      refine Ex.cut (fun env h' => ∃ out : List Nat, out.length = M ∧ small out ∧ digVal out = digVal e / 2 ^ r ∧ env.get 6 = some (.slice (h.nx + 16) 0 M M true 1) ∧ h.nx + 18 ≤ h'.nx ∧ ∀ b, h'.m.get b = if b = h.nx + 16 then some (.row (u32s out) false) else h.m.get b) (Ex.block ?_) ?_
      · refine Ex.loop (fun j env h' => ∃ (i : Nat) (out : List Nat), j = M - i ∧ i ≤ M ∧ out.length = M ∧ small out ∧ digVal (out.take i) + 4294967296 ^ i * (digVal (e.drop i) / 2 ^ r) = digVal e / 2 ^ r ∧
          env.get 1 = some (.int .i64 k) ∧ env.get 5 = some re ∧ env.get 6 = some (.slice (h.nx + 16) 0 M M true 1) ∧ env.get 24 = some (.int .i64 M) ∧ env.get 25 = some (.int .i64 i) ∧
          h.nx + 18 ≤ h'.nx ∧ ∀ b, h'.m.get b = if b = h.nx + 16 then some (.row (u32s out) false) else h.m.get b) ?_ M _ _ ?_
        · rintro j env h' ⟨i, out, rfl, h1, h2, h3, h4, g1, g5, g6, g24, g25, h5, h6⟩
          (repeat refine Ex.assoc ?_); refine Ex.step (m := 0) (by simp (config := {decide := true}) only [RS, Nat.reduceAdd, g24, g25]; rfl) ?_
          by_cases hi : i < M
          · have hi1 : ((i : Nat) : Int) < (M : Int) := by omega
            refine Ex.ifT (by simp (config := {decide := true}) only [RS, Nat.reduceAdd, hi1]) (Ex.skipS ?_)
            refine Ex.seq (Ex.block ?_)
            have de' : DigAt h' re e [ab] := de.ext fun b hb => by rw [h6, if_neg (hne b hb)]
            have cA : ∀ m nx, callF Tryz.prog hk m 133 [re, .int .i64 i] ⟨h'.m, nx⟩ = some (.int .u64 (dig e i : Nat), ⟨h'.m, nx⟩) := fun m nx => callF_hk (B.at' _ _ _ _ (de'.at se i))
            have cB : ∀ m nx, callF Tryz.prog hk m 133 [re, .int .i64 ((i + 1 : Nat) : Int)] ⟨h'.m, nx⟩ = some (.int .u64 (dig e (i + 1) : Nat), ⟨h'.m, nx⟩) := fun m nx => callF_hk (B.at' _ _ _ _ (de'.at se (i + 1)))
            have l1 := dig_lt se i
            have l2 := dig_lt se (i + 1)
            have w8 : IntKind.i64.wrap (((i : Nat) : Int) + 1) = ((i + 1 : Nat) : Int) := by rw [wrap_i64] <;> omega
            obtain ⟨z, hz⟩ : ∃ z, z = 4294967296 * dig e (i + 1) + dig e i := ⟨_, rfl⟩
            have ho : IntKind.u64.wrap (((BitVec.ofInt (IntKind.bits .u64) ((dig e i : Nat) : Int) ||| BitVec.ofInt (IntKind.bits .u64) ((4294967296 * dig e (i + 1) : Nat) : Int)).toNat : Nat) : Int) = ((z : Nat) : Int) := by
              rw [BitVec.or_comm, hz]; exact or_half l2 l1
            have w1 : ¬ ((r : Nat) : Int) < 0 := by omega
            obtain ⟨x, hx⟩ : ∃ x, x = z / 2 ^ r % 4294967296 := ⟨_, rfl⟩
            have w2 : IntKind.u32.wrap ((z / 2 ^ r : Nat) : Int) = (x : Nat) := by rw [wrap_u32, hx]; exact (Int.natCast_emod _ _).symm
            have hx2 : x < 4294967296 := by rw [hx]; exact Nat.mod_lt _ (by omega)
            have e4 : (0 ≤ ((i : Nat) : Int) ∧ ((i : Nat) : Int) < (M : Int)) := by omega
            have hp : ∀ nx, putCells ⟨h'.m, nx⟩ (h.nx + 16) (0 + i * 1) [.int .u32 (x : Int)] = some ⟨h'.m.set (h.nx + 16) (.row (u32s (out.set i x)) false), nx⟩ := fun nx =>
              putCells_u32 (h := ⟨h'.m, nx⟩) (by simp only [h6, if_true]) (by omega)
            (repeat refine Ex.assoc ?_); refine Ex.step (m := 0) (by simp (config := {decide := true}) only [RS, Nat.reduceAdd, g25]; rfl) ?_
            refine Ex.last (m := 0) (by simp (config := {decide := true}) only [RS, Nat.reduceAdd, fn_at, cA, cB, g1, g5, g6, g25, w8, shl32 l2, ho, q2, w1, Int.toNat_natCast, shr_u64 hr32, w2, tSl, tU32, tU64, hU32, sU32, e4, hp]; rfl) ?_
            simp (config := {decide := true}) only [thenK, blockK, ite_true, ite_false, if_true, if_false]
            refine Ex.last (m := 0) (by simp (config := {decide := true}) only [RS, Nat.reduceAdd, g25, w8]; rfl) ?_
            simp (config := {decide := true}) only [thenK, blockK, ite_true, ite_false, if_true, if_false]
            refine ⟨M - (i + 1), by omega, i + 1, out.set i x, rfl, by omega, by simpa using h2, small_set h3 hx2 i, ?_, by simp (config := {decide := true}) only [RS, Nat.reduceAdd, g1], by simp (config := {decide := true}) only [RS, Nat.reduceAdd, g5], by simp (config := {decide := true}) only [RS, Nat.reduceAdd, g6], by simp (config := {decide := true}) only [RS, Nat.reduceAdd, g24], by simp (config := {decide := true}) only [RS, Nat.reduceAdd], (by first | omega | (simp only [Nat.add_assoc]; omega) | (dsimp only; omega)), fun b => ?_⟩
            · rw [take_set (by omega), digVal_append, List.length_take, Nat.min_eq_left (by omega), Nat.pow_succ]
              simp only [digVal, Nat.mul_zero, Nat.add_zero]
              rw [← h4, digVal_drop (by omega : i < e.length), down_digit l1 hr32 (drop_mod hr32), Nat.add_comm (dig e i) (4294967296 * dig e (i + 1)), ← hz, ← hx, Nat.mul_add, Nat.mul_assoc]
              omega
            · simp only [PT.get_set, h6]
              split <;> rfl
          · have hi1 : ¬ ((i : Nat) : Int) < (M : Int) := by omega
            refine Ex.ifF (by simp (config := {decide := true}) only [RS, Nat.reduceAdd, hi1]) (Ex.exitS ?_)
            simp (config := {decide := true}) only [thenK, blockK, ite_true, ite_false, if_true, if_false]
            have hiN : i = M := by omega
            subst hiN
            refine ⟨out, h2, h3, ?_, by simp (config := {decide := true}) only [RS, Nat.reduceAdd, g6], (by first | omega | (simp only [Nat.add_assoc]; omega) | (dsimp only; omega)), h6⟩
            rw [List.take_of_length_le (by omega), List.drop_of_length_le (by omega)] at h4
            simpa [digVal] using h4
        · refine ⟨0, List.replicate M 0, rfl, by omega, by simp, small_rep M, by simp [digVal], by simp (config := {decide := true}) only [RS, Nat.reduceAdd, g1], by simp (config := {decide := true}) only [RS, Nat.reduceAdd, g5], by simp (config := {decide := true}) only [RS, Nat.reduceAdd], by simp (config := {decide := true}) only [RS, Nat.reduceAdd], by simp (config := {decide := true}) only [RS, Nat.reduceAdd]; rfl, (by first | omega | (simp only [Nat.add_assoc]; omega) | (dsimp only; omega)), ?_⟩
          intro b
          simp only [PT.get_set]
      · rintro env h' ⟨out, h1, h2, h3, h4, h5, h6⟩
        have hf' : h'.fr := fun b hb => by
          rw [h6, if_neg (by omega)]; exact hf b (by omega)
        have hgo : ∀ nx, getCells ⟨h'.m, nx⟩ (h.nx + 16) 0 out.length = some (u32s out) := fun nx => by
          unfold getCells
          simp only [h6, if_true]
          rw [if_pos (by simp [u32s])]
          simp only [List.drop_zero]
          rw [List.take_of_length_le (by simp [u32s])]
        obtain ⟨m, r', h1', q1', nb, rfl, q2', q3', q4'⟩ := of_run B.of (h := ⟨h'.m, h'.nx + 3⟩) (fun b hb => hf' b (by simp only at hb; omega)) (b := h.nx + 16) (off := 0) (cap := M) (ex := true) (ds := out) (hgo _) (by omega) (by omega)
        rw [h1] at q1'
        (repeat refine Ex.assoc ?_); refine Ex.step (m := m) (by simp (config := {decide := true}) only [RS, Nat.reduceAdd, h4, fn_of, q1']; rfl) ?_
        refine Ex.ret ⟨trivial, _, by simp (config := {decide := true}) only [RS, Nat.reduceAdd]; rfl, ?_⟩
        simp (config := {decide := true}) only [RS, Nat.reduceAdd]
        have hv : digVal da / 2 ^ k = digVal out := by
          rw [h3, hk2, ← Nat.div_div_eq_div_mul]
          congr 1
          have t1 := digVal_append (da.take s) (da.drop s)
          rw [List.take_append_drop, List.length_take, Nat.min_eq_left (by omega), ← he] at t1
          rw [t1, Nat.add_mul_div_left _ _ (Nat.pow_pos (by omega)), Nat.div_eq_of_lt (digVal_take_lt sa s), Nat.zero_add]
        rw [hv]
        refine made_of hf h2 (ob := h.nx + 16) (cap := M) (ex := true) (by omega) (by simp only at q2'; omega) (by omega) (fun b => ?_)
        rw [q4']
        simp only [PT.get_set, h6]
end Go.Vk
