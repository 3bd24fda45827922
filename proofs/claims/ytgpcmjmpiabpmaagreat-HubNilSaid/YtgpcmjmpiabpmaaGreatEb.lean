/-
  The shadow run and its soundness, part 2 (texts of mine joined by a program of mine).
-/
import Derived.Test.YtgpcmjmpiabpmaaGreatEa
import Derived.Great.BuildSlice
import Derived.Laws.IdiomStrings

/-
  len, cap, max, min; walks through maps.
-/
namespace Go.Sh
set_option linter.unusedVariables false
variable {P : Program} {ρ : Rho} {h : H} {w : World}
variable {od : Operand → Option Od} {ev : Od → SV} {a : Operand → Value} {X : Ctx} {o : Oper} {s : SOp} {v : SV} {h' : H}

theorem VR_goInt (n : Nat) : VR ρ (.int .i64 (.ofNat n)) (goInt n) := .int _ _

theorem str_size {n v : Nat} {s : ByteArray} (h : s.data.toList.map UInt8.toNat = (List.range n).map (byteOf v)) : s.size = n := by
  have := congrArg List.length h
  simpa using this

theorem VR.nils_inv {u : Value} (h : VR ρ .nils u) : u = .slice none 0 0 := by cases h; rfl
theorem VR.tslc_inv {n : Nat} {u : Value} (h : VR ρ (.tslc n) u) : ∃ a c, u = .slice a n c := by cases h; exact ⟨_, _, rfl⟩
theorem VR.emp_inv {u : Value} (h : VR ρ .emp u) : ∃ ad c, u = .slice (some ad) 0 c := by cases h; exact ⟨_, _, rfl⟩

theorem good_len {c : Call} (ho : o.op = .call c) (hc : c.callee = .builtin .len) (hs : builtinO P od .len c.argTypes.toList c.args.toList = some s) (hev : Evs ρ od ev a) (hr : HR P ρ h w)
    (he : evS s X ev h = some (.val v h')) : Good P ρ h w v h' (execOp a o) := by
  unfold builtinO at hs
  split at hs <;> try contradiction
  rename_i _ t r x _ hts has
  obtain ⟨cs, hrun⟩ := run_builtin (P := P) (a := a) ho hc w
  rw [args1 has] at hrun
  have ht := types1 hts
  split at hs
  · rename_i hu
    obtain ⟨y, hy, rfl⟩ := map_some hs
    have vx := hev x y hy
    simp only [evS] at he
    split at he
    · rename_i n b e
      rw [e] at vx
      obtain ⟨rfl, rfl⟩ := val_inj he
      obtain ⟨str, hstr, h1, h2⟩ := vx.str_inv
      have := str_size h1
      exact Good.same hr (u := goInt n) (by rw [hrun]; simp [builtin, Builtin.len_, ht, run_underlying hu, hstr, this]) (VR_goInt n)
    · cases he
  · rename_i el hu
    obtain ⟨y, hy, rfl⟩ := map_some hs
    have vx := hev x y hy
    simp only [evS] at he
    split at he
    · rename_i b k n c' e
      rw [e] at vx
      obtain ⟨rfl, rfl⟩ := val_inj he
      obtain ⟨l, c'', hl, hux, _⟩ := vx.slc_inv
      exact Good.same hr (u := goInt n) (by rw [hrun]; simp [builtin, Builtin.len_, ht, run_underlying hu, hux]) (VR_goInt n)
    · rename_i e
      rw [e] at vx
      obtain ⟨rfl, rfl⟩ := val_inj he
      exact Good.same hr (u := goInt 0) (by rw [hrun]; simp [builtin, Builtin.len_, ht, run_underlying hu, vx.nils_inv]) (VR_goInt 0)
    · rename_i e
      rw [e] at vx
      obtain ⟨rfl, rfl⟩ := val_inj he
      obtain ⟨ad, c', hux⟩ := vx.emp_inv
      exact Good.same hr (u := goInt 0) (by rw [hrun]; simp [builtin, Builtin.len_, ht, run_underlying hu, hux]) (VR_goInt 0)
    · rename_i n e
      rw [e] at vx
      obtain ⟨rfl, rfl⟩ := val_inj he
      obtain ⟨ad, c', hux⟩ := vx.tslc_inv
      exact Good.same hr (u := goInt n) (by rw [hrun]; simp [builtin, Builtin.len_, ht, run_underlying hu, hux]) (VR_goInt n)
    · cases he
  · rename_i kt el hu
    obtain ⟨y, hy, rfl⟩ := map_some hs
    have vx := hev x y hy
    simp only [evS] at he
    split at he
    · rename_i e
      rw [e] at vx
      obtain ⟨rfl, rfl⟩ := val_inj he
      exact Good.same hr (u := goInt 0) (by rw [hrun]; simp [builtin, Builtin.len_, ht, run_underlying hu, vx.nilm_inv]) (VR_goInt 0)
    · rename_i b e
      rw [e] at vx
      split at he
      · rename_i es ver hb
        obtain ⟨rfl, rfl⟩ := val_inj he
        obtain ⟨l, hl, hux⟩ := vx.map_inv
        obtain ⟨entries, clock, h1, h2, h3⟩ := hr.map hb hl
        have hcount := countK_len h2
        rw [Array.length_toList] at hcount
        exact Good.same hr (u := goInt (countK es)) (by rw [hrun]; simp [builtin, Builtin.len_, ht, run_underlying hu, hux, run_getMap h1, hcount]) (VR_goInt _)
      · cases he
    · cases he
  · rename_i n el hu
    cases hs
    simp only [evS] at he
    obtain ⟨rfl, rfl⟩ := val_inj he
    exact Good.same hr (u := goInt n) (by rw [hrun]; simp [builtin, Builtin.len_, ht, run_underlying hu]) (VR_goInt _)
  · rename_i pa hu
    split at hs
    · rename_i n el hu2
      cases hs
      simp only [evS] at he
      obtain ⟨rfl, rfl⟩ := val_inj he
      exact Good.same hr (u := goInt n) (by rw [hrun]; simp [builtin, Builtin.len_, ht, run_underlying hu, run_underlying hu2]) (VR_goInt _)
    · cases hs
  · cases hs

theorem good_cap {c : Call} (ho : o.op = .call c) (hc : c.callee = .builtin .cap) (hs : builtinO P od .cap c.argTypes.toList c.args.toList = some s) (hev : Evs ρ od ev a) (hr : HR P ρ h w)
    (he : evS s X ev h = some (.val v h')) : Good P ρ h w v h' (execOp a o) := by
  unfold builtinO at hs
  split at hs <;> try contradiction
  rename_i _ t r x _ hts has
  obtain ⟨cs, hrun⟩ := run_builtin (P := P) (a := a) ho hc w
  rw [args1 has] at hrun
  have ht := types1 hts
  split at hs
  · rename_i el hu
    split at hs
    · rename_i i y hi hy
      cases hs
      have vx := hev x y hy
      simp only [evS] at he
      split at he
      · rename_i e
        rw [e] at vx
        obtain ⟨rfl, rfl⟩ := val_inj he
        exact Good.same hr (u := goInt 0) (by rw [hrun]; simp [builtin, Builtin.cap_, ht, run_underlying hu, vx.nils_inv]) (VR_goInt 0)
      · rename_i b k n c' e
        rw [e] at vx
        obtain ⟨l, c'', hl, hux, hnc, hcap⟩ := vx.slc_inv
        split at he
        · rename_i row sz g sh fam hb
          cases hg : (Nat.beq g 0 || (Nat.beq g i.size && !(Nat.beq (Nat.add k (Nat.mul c' i.size)) sz))) with
          | false => rw [hg] at he; cases he
          | true =>
            rw [hg, cond_true] at he
            obtain ⟨rfl, rfl⟩ := val_inj he
            obtain ⟨h1, h2, _⟩ := hr.row hb hl
            have hcc : c'' = c' := by
              rcases hcap with e | ⟨_, e2, e3⟩
              · exact e
              · exfalso
                simp only [Bool.or_eq_true, Bool.and_eq_true, Nat.beq_eq, Bool.not_eq_true'] at hg
                rcases hg with hg | ⟨hg1, hg2⟩
                · exact e2 (h2.trans hg)
                · rw [h2, h1, hg1] at e3
                  have : Nat.beq (Nat.add k (Nat.mul c' i.size)) sz = true := beq_true e3
                  rw [this] at hg2; cases hg2
            subst hcc
            exact Good.same hr (u := goInt c'') (by rw [hrun]; simp [builtin, Builtin.cap_, ht, run_underlying hu, hux]) (VR_goInt _)
        · cases he
      · cases he
    · cases hs
  · cases hs

inductive VRs (ρ : Rho) : List SV → List Value → Prop
  | nil : VRs ρ [] []
  | cons {v : SV} {u : Value} {xs : List SV} {us : List Value} (hv : VR ρ v u) (h : VRs ρ xs us) : VRs ρ (v :: xs) (u :: us)

theorem VRs.mono {ρ ρ' : Rho} (hle : Le ρ ρ') {xs : List SV} {us : List Value} (h : VRs ρ xs us) : VRs ρ' xs us := by
  induction h with
  | nil => exact .nil
  | cons hv h ih => exact .cons (hv.mono hle) ih

theorem VRs.append {xs ys : List SV} {us vs : List Value} (h : VRs ρ xs us) (h' : VRs ρ ys vs) : VRs ρ (xs ++ ys) (us ++ vs) := by
  induction h with
  | nil => exact h'
  | cons hv h ih => exact .cons hv ih

theorem VRs.toL {xs : List SV} {us : List Value} (h : VRs ρ xs us) : LR ρ (ofListS xs) us := by
  induction h with
  | nil => exact .nl
  | cons hv h ih => exact .cons _ _ _ _ hv ih

theorem toListS_sound {l : SV} {us : List Value} (h : LR ρ l us) {xs : List SV} (hx : toListS l = some xs) : VRs ρ xs us := by
  induction l generalizing us xs with
  | nl => cases h; simp only [toListS, Option.some.injEq] at hx; subst hx; exact .nil
  | cons v l _ ih =>
    cases h with
    | cons _ _ u us hv hl =>
      simp only [toListS] at hx
      split at hx
      · rename_i r hr
        cases hx
        exact .cons hv (ih hl hr)
      · cases hx
  | _ => simp [toListS] at hx

theorem mapO_all {l : List Operand} {r : List Od} (h : mapO od l = some r) (hev : Evs ρ od ev a) : VRs ρ (r.map ev) (l.map a) := by
  induction l generalizing r with
  | nil => simp only [mapO, Option.some.injEq] at h; subst h; exact .nil
  | cons x l ih =>
    simp only [mapO] at h
    split at h
    · rename_i y t hy ht
      cases h
      exact .cons (hev x y hy) (ih ht)
    · cases h

theorem run_foldMax {k : IntKind} : ∀ (xs : List SV) (us : List Value) (p : Int) (r : SV), VRs ρ xs us → maxS (.int k p) xs = some r →
    ∃ u, (us.foldlM Builtin.max2 (.int k p)).run P w = .ok u w ∧ VR ρ r u := by
  intro xs
  induction xs with
  | nil =>
    intro us p r hxs hr
    cases hxs
    simp only [maxS, Option.some.injEq] at hr; subst hr
    exact ⟨.int k p, by simp [List.foldlM], .int _ _⟩
  | cons x xs ih =>
    intro us p r hxs hr
    cases hxs with
    | cons hx hl =>
      cases x <;> simp only [maxS] at hr <;> try (cases hr; done)
      rename_i j q
      cases hx
      obtain ⟨u, h1, h2⟩ := ih _ _ _ hl hr
      refine ⟨u, ?_, h2⟩
      rw [List.foldlM_cons]
      simp only [Builtin.max2, Sem.run_bind, Sem.run_pure, Result.andThen_ok]
      rw [bltI_eq] at h1
      by_cases hpq : p < q
      · simpa [hpq] using h1
      · simpa [hpq] using h1

theorem run_foldMin {k : IntKind} : ∀ (xs : List SV) (us : List Value) (p : Int) (r : SV), VRs ρ xs us → minS (.int k p) xs = some r →
    ∃ u, (us.foldlM Builtin.min2 (.int k p)).run P w = .ok u w ∧ VR ρ r u := by
  intro xs
  induction xs with
  | nil =>
    intro us p r hxs hr
    cases hxs
    simp only [minS, Option.some.injEq] at hr; subst hr
    exact ⟨.int k p, by simp [List.foldlM], .int _ _⟩
  | cons x xs ih =>
    intro us p r hxs hr
    cases hxs with
    | cons hx hl =>
      cases x <;> simp only [minS] at hr <;> try (cases hr; done)
      rename_i j q
      cases hx
      obtain ⟨u, h1, h2⟩ := ih _ _ _ hl hr
      refine ⟨u, ?_, h2⟩
      rw [List.foldlM_cons]
      simp only [Builtin.min2, Sem.run_bind, Sem.run_pure, Result.andThen_ok]
      rw [bltI_eq] at h1
      by_cases hpq : q < p
      · simpa [hpq] using h1
      · simpa [hpq] using h1

theorem argsList {c : Call} {l : List Operand} (h : c.args.toList = l) : (c.args.map a).toList = l.map a := by rw [Array.toList_map, h]

theorem good_max {c : Call} (ho : o.op = .call c) (hc : c.callee = .builtin .max) (hs : builtinO P od .max c.argTypes.toList c.args.toList = some s) (hev : Evs ρ od ev a) (hr : HR P ρ h w)
    (he : evS s X ev h = some (.val v h')) : Good P ρ h w v h' (execOp a o) := by
  unfold builtinO at hs
  split at hs <;> try contradiction
  rename_i _ ts x r _ has
  obtain ⟨cs, hrun⟩ := run_builtin (P := P) (a := a) ho hc w
  have hl := argsList (a := a) has
  split at hs
  · rename_i y ys hy hys
    cases hs
    have vx := hev x y hy
    have vs := mapO_all hys hev
    simp only [evS] at he
    split at he
    · rename_i r' hm
      obtain ⟨rfl, rfl⟩ := val_inj he
      have : ∃ u, ((r.map a).foldlM Builtin.max2 (a x)).run P w = .ok u w ∧ VR ρ r' u := by
        generalize hw : ev y = p at vx hm
        generalize r.map a = us at vs
        generalize ys.map ev = xs at vs hm
        cases xs with
        | nil =>
          cases vs
          simp only [maxS, Option.some.injEq] at hm; subst hm
          exact ⟨a x, by simp [List.foldlM], vx⟩
        | cons z zs =>
          obtain ⟨k, q, rfl⟩ : ∃ k q, p = .int k q := by
            unfold maxS at hm; split at hm
            · rename_i hh; cases hh
            · exact ⟨_, _, rfl⟩
            · cases hm
          rw [vx.int_inv]
          exact run_foldMax _ _ _ _ vs hm
      obtain ⟨u, h1, h2⟩ := this
      refine Good.same hr (u := u) ?_ h2
      rw [hrun]
      simp only [builtin, Builtin.max_, hl, List.map_cons, Sem.run_bind, h1, Result.andThen_ok, Sem.run_pure]
    · cases he
  · cases hs

theorem good_min {c : Call} (ho : o.op = .call c) (hc : c.callee = .builtin .min) (hs : builtinO P od .min c.argTypes.toList c.args.toList = some s) (hev : Evs ρ od ev a) (hr : HR P ρ h w)
    (he : evS s X ev h = some (.val v h')) : Good P ρ h w v h' (execOp a o) := by
  unfold builtinO at hs
  split at hs <;> try contradiction
  rename_i _ ts x r _ has
  obtain ⟨cs, hrun⟩ := run_builtin (P := P) (a := a) ho hc w
  have hl := argsList (a := a) has
  split at hs
  · rename_i y ys hy hys
    cases hs
    have vx := hev x y hy
    have vs := mapO_all hys hev
    simp only [evS] at he
    split at he
    · rename_i r' hm
      obtain ⟨rfl, rfl⟩ := val_inj he
      have : ∃ u, ((r.map a).foldlM Builtin.min2 (a x)).run P w = .ok u w ∧ VR ρ r' u := by
        generalize hw : ev y = p at vx hm
        generalize r.map a = us at vs
        generalize ys.map ev = xs at vs hm
        cases xs with
        | nil =>
          cases vs
          simp only [minS, Option.some.injEq] at hm; subst hm
          exact ⟨a x, by simp [List.foldlM], vx⟩
        | cons z zs =>
          obtain ⟨k, q, rfl⟩ : ∃ k q, p = .int k q := by
            unfold minS at hm; split at hm
            · rename_i hh; cases hh
            · exact ⟨_, _, rfl⟩
            · cases hm
          rw [vx.int_inv]
          exact run_foldMin _ _ _ _ vs hm
      obtain ⟨u, h1, h2⟩ := this
      refine Good.same hr (u := u) ?_ h2
      rw [hrun]
      simp only [builtin, Builtin.min_, hl, List.map_cons, Sem.run_bind, h1, Result.andThen_ok, Sem.run_pure]
    · cases he
  · cases hs

end Go.Sh

/-
  Walks through maps.
-/
namespace Go.Sh
set_option linter.unusedVariables false
variable {P : Program} {ρ : Rho} {h : H} {w : World}
variable {od : Operand → Option Od} {ev : Od → SV} {a : Operand → Value} {X : Ctx} {o : Oper} {s : SOp} {v : SV} {h' : H}

def loc0 (w : World) : Loc := ⟨w.heap.size, 0, 0, 0, 0⟩

theorem good_range {t : TypeId} {x : Operand} (ho : o.op = .range t x) (hs : opO P od (.range t x) = some s) (hev : Evs ρ od ev a) (hr : HR P ρ h w)
    (he : evS s X ev h = some (.val v h')) : Good P ρ h w v h' (execOp a o) := by
  simp only [opO] at hs
  split at hs
  · rename_i kt el y hu hy
    cases hs
    have vx := hev x y hy
    simp only [evS] at he
    split at he
    · rename_i e
      rw [e] at vx
      obtain ⟨rfl, rfl⟩ := val_inj he
      obtain ⟨h1, h2⟩ := hr.new (.iter none 0 0) (.mapIter none 0 #[] 0) (loc0 w) rfl (fun ρ' h' w' hle hb hm => ⟨rfl, 0, #[], 0, hb⟩) (by simp)
      refine Good.val ?_ (.ptr _ 0 (loc0 w) (upd_same _ _)) h1 h2
      simp [execOp, ho, Instr.range, run_underlying hu, vx.nilm_inv, loc0]
    · rename_i b e
      rw [e] at vx
      obtain ⟨l, hl, hux⟩ := vx.map_inv
      split at he
      · rename_i es ver hb
        obtain ⟨rfl, rfl⟩ := val_inj he
        obtain ⟨entries, clock, h1, h2, h3⟩ := hr.map hb hl
        obtain ⟨k1, k2⟩ := hr.new (.iter (some b) ver 0) (.mapIter (some l.rb) clock #[] clock) (loc0 w) rfl (fun ρ' h' w' hle hbb hm => by
          obtain ⟨m1, m2⟩ := hm b l hl
          refine ⟨rfl, l, clock, #[], clock, hle _ _ hl, hbb, fun es' v' he' => ?_⟩
          rw [m1] at he'
          have hb' : h.at_ b = some (.map es ver) := hb
          rw [hb'] at he'
          simp only [Option.some.injEq, SObj.map.injEq] at he'
          obtain ⟨rfl, rfl⟩ := he'
          refine ⟨Nat.le_refl _, fun _ en cl hen => ?_⟩
          rw [m2, h1] at hen
          simp only [Option.some.injEq, Obj.map.injEq] at hen
          obtain ⟨rfl, rfl⟩ := hen
          exact ⟨rfl, rfl, by simp⟩) (by simp)
        refine Good.val ?_ (.ptr _ 0 (loc0 w) (upd_same _ _)) k1 k2
        simp [execOp, ho, Instr.range, run_underlying hu, hux, run_getMap h1, loc0]
      · cases he
    · cases he
  · cases hs

theorem HR.iter_put (hr : HR P ρ h w) {r : Pos} {m : Pos} {ver i i' : Nat} {l lm : Loc} (hb : h.at_ r = some (.iter (some m) ver i)) (hl : ρ r = some l) (hlm : ρ m = some lm) {es : SV} (hm : h.at_ m = some (.map es ver))
    {entries : Array MapEntry} {clock : Nat} (hw : w.heap[lm.rb]? = some (.map entries clock)) {since : Nat} {seen : Array Nat} (hsh : l.sh = 0) (hsince : since = clock) (hseen : seen.toList = (entries.toList.take i').map (·.born)) :
    HR P ρ (h.put r (.iter (some m) ver i')) (wput w l.rb (.mapIter (some lm.rb) since seen clock)) ∧ Ext ρ h w ρ (h.put r (.iter (some m) ver i')) (wput w l.rb (.mapIter (some lm.rb) since seen clock)) := by
  have hlt := hr.lt r l hl
  have hne : m ≠ r := fun e => by subst e; rw [hb] at hm; cases hm
  have hrb : lm.rb ≠ l.rb := by
    intro e
    obtain ⟨x1, n1, g1, x2, n2, g2, fm, e1, e2⟩ := hr.excl m r _ _ lm l hm hb hlm hl hne e
    cases e1
  refine hr.put hb hl (by simp) (by simp) _ ⟨hsh, lm, since, seen, clock, hlm, wput_same hlt, fun es' v he => ?_⟩ ?_
  · rw [put_at, if_neg hne, hm] at he
    simp only [Option.some.injEq, SObj.map.injEq] at he
    obtain ⟨rfl, rfl⟩ := he
    refine ⟨Nat.le_refl _, fun _ en cl hen => ?_⟩
    rw [wput_other hrb, hw] at hen
    simp only [Option.some.injEq, Obj.map.injEq] at hen
    obtain ⟨rfl, rfl⟩ := hen
    exact ⟨hsince, rfl, hseen⟩
  · intro x v j lx hxb hx hlx
    obtain ⟨h0, lm', si, se, st, h1, h2, h3⟩ := hr.obj x _ lx hx hlx
    have hne : lx.rb ≠ l.rb := by
      intro e
      obtain ⟨x1, n1, g1, x2, n2, g2, fm, e1, e2⟩ := hr.excl x r _ _ lx l hx hb hlx hl hxb e
      cases e1
    refine ⟨h0, lm', si, se, st, h1, (wput_other hne).trans h2, fun es2 v2 he => ?_⟩
    rw [put_at, if_pos rfl] at he; cases he

theorem nthK_small {l : SV} {es : List MapEntry} (hm : MR ρ l es) (h1 : es.length ≤ 1) {i : Nat} {k v : SV} (h : nthK l i = some (k, v)) : i = 0 ∧ ∃ e, es = [e] ∧ VR ρ k e.key ∧ VR ρ v e.val := by
  cases hm with
  | nl => simp [nthK] at h
  | cons k' v' r e es hk hv hr =>
    cases hr with
    | nl =>
      simp only [nthK] at h
      cases i with
      | zero => simp at h; obtain ⟨rfl, rfl⟩ := h; exact ⟨rfl, e, rfl, hk, hv⟩
      | succ i => rw [beq_false (by omega)] at h; simp at h
    | cons => simp at h1

theorem nthK_none {l : SV} {es : List MapEntry} (hm : MR ρ l es) {i : Nat} (h : nthK l i = none) : es.length ≤ i := by
  induction hm generalizing i with
  | nl => simp
  | cons k' v' r e es hk hv hr ih =>
    simp only [nthK] at h
    cases i with
    | zero => simp at h
    | succ i =>
      rw [beq_false (by omega)] at h
      simp only [cond_false, Nat.sub_eq, Nat.add_sub_cancel] at h
      have := ih h
      simp; omega

theorem forced_one : (Question.mapNext 1).forced = true := rfl

theorem good_next {it : Operand} (ho : o.op = .next it false) (hs : opO P od (.next it false) = some s) (hev : Evs ρ od ev a) (hr : HR P ρ h w)
    (he : evS s X ev h = some (.val v h')) : Good P ρ h w v h' (execOp a o) := by
  simp only [opO] at hs
  obtain ⟨y, hy, rfl⟩ := map_some hs
  have vx := hev it y hy
  simp only [evS] at he
  split at he
  · rename_i r e
    rw [e] at vx
    obtain ⟨l, hl, hux⟩ := vx.ptr_inv
    split at he
    · rename_i ver i hb
      obtain ⟨rfl, rfl⟩ := val_inj he
      obtain ⟨hsh, si, se, st, hw⟩ := hr.obj r _ l hb hl
      refine Good.same hr (u := .tuple #[.bool false]) ?_ (.tup _ _ (.cons _ _ _ _ (.bool false) .nl))
      simp [execOp, ho, Instr.next, hux, hsh, run_getObj hw (by simp)]
    · rename_i m ver i hb
      split at he
      · rename_i es v' hm
        cases hc : (Nat.beq v' ver && Nat.ble (countK es) 1) with
        | false => rw [hc] at he; cases he
        | true =>
          rw [hc, cond_true] at he
          simp only [Bool.and_eq_true, Nat.beq_eq] at hc
          obtain ⟨rfl, hle⟩ := hc
          have hle := Nat.le_of_ble_eq_true hle
          obtain ⟨hsh, lm, si, se, st, hlm, hw, hit⟩ := hr.obj r _ l hb hl
          obtain ⟨entries, clock, h1, h2, h3⟩ := hr.map hm hlm
          have hcount := countK_len h2
          obtain ⟨_, hit⟩ := hit es v' hm
          obtain ⟨rfl, rfl, hseen⟩ := hit rfl entries _ h1
          split at he
          · rename_i k x hn
            obtain ⟨rfl, rfl⟩ := val_inj he
            obtain ⟨rfl, en, hen, hk, hv⟩ := nthK_small h2 (by omega) hn
            have hE : entries = #[en] := by rw [← Array.toArray_toList (xs := entries), hen]
            subst hE
            have hse : se = #[] := by
              have : se.toList = [] := by simpa using hseen
              rw [← Array.toArray_toList (xs := se), this]
            subst hse
            have hborn := h3 en (by simp)
            obtain ⟨k1, k2⟩ := hr.iter_put (i' := 1) hb hl hlm hm h1 hsh rfl (seen := #[en.born]) (by simp)
            refine Good.val (u := .tuple #[.bool true, en.key, en.val]) ?_ (.tup _ _ (.cons _ _ _ _ (.bool true) (.cons _ _ _ _ hk (.cons _ _ _ _ hv .nl)))) k1 k2
            have hs2 : (setObj l.rb (.mapIter (some lm.rb) st #[en.born] st)).run P w = _ := run_setObj _ hw (by simp)
            have hnb : ¬ st ≤ en.born := by omega
            simp [execOp, ho, Instr.next, hux, hsh, run_getObj hw (by simp), run_getMap h1, hborn, hnb, forced_one, hs2]
          · rename_i hn
            obtain ⟨rfl, rfl⟩ := val_inj he
            have hlen := nthK_none h2 hn
            refine Good.same hr (u := .tuple #[.bool false]) ?_ (.tup _ _ (.cons _ _ _ _ (.bool false) .nl))
            rw [List.take_of_length_le hlen] at hseen
            cases hE : entries.toList with
            | nil =>
              have hE2 : entries = #[] := by rw [← Array.toArray_toList (xs := entries), hE]
              subst hE2
              simp [execOp, ho, Instr.next, hux, hsh, run_getObj hw (by simp), run_getMap h1, forced_one]
            | cons en rest =>
              have : rest = [] := by
                rw [hE] at hcount
                cases rest with
                | nil => rfl
                | cons => simp at hcount; omega
              subst this
              have hE2 : entries = #[en] := by rw [← Array.toArray_toList (xs := entries), hE]
              subst hE2
              have hse : se = #[en.born] := by
                have : se.toList = [en.born] := by simpa using hseen
                rw [← Array.toArray_toList (xs := se), this]
              subst hse
              have hborn := h3 en (by simp)
              have hnb : ¬ st ≤ en.born := by omega
              simp [execOp, ho, Instr.next, hux, hsh, run_getObj hw (by simp), run_getMap h1, hnb, forced_one]
      · cases he
    · cases he
  · cases he

theorem good_entry {it : Operand} (ho : o.op = .entry it) (hs : opO P od (.entry it) = some s) (hev : Evs ρ od ev a) (hr : HR P ρ h w)
    (he : evS s X ev h = some (.val v h')) : Good P ρ h w v h' (execOp a o) := by
  simp only [opO] at hs
  obtain ⟨y, hy, rfl⟩ := map_some hs
  have vx := hev it y hy
  simp only [evS] at he
  split at he
  · rename_i r e
    rw [e] at vx
    obtain ⟨l, hl, hux⟩ := vx.ptr_inv
    split at he
    · rename_i m ver i hb
      split at he
      · rename_i es v' hm
        cases hc : (Nat.beq v' ver && Nat.beq i 1 && Nat.beq (countK es) 1) with
        | false => rw [hc] at he; cases he
        | true =>
          rw [hc, cond_true] at he
          simp only [Bool.and_eq_true, Nat.beq_eq] at hc
          obtain ⟨⟨rfl, rfl⟩, hle⟩ := hc
          obtain ⟨hsh, lm, si, se, st, hlm, hw, hit⟩ := hr.obj r _ l hb hl
          obtain ⟨entries, clock, h1, h2, h3⟩ := hr.map hm hlm
          have hcount := countK_len h2
          obtain ⟨_, hit⟩ := hit es v' hm
          obtain ⟨rfl, rfl, hseen⟩ := hit rfl entries _ h1
          split at he
          · rename_i k x hn
            obtain ⟨rfl, rfl⟩ := val_inj he
            obtain ⟨_, en, hen, hk, hv⟩ := nthK_small h2 (by omega) hn
            have hE : entries = #[en] := by rw [← Array.toArray_toList (xs := entries), hen]
            subst hE
            have hse : se = #[en.born] := by
              have : se.toList = [en.born] := by simpa using hseen
              rw [← Array.toArray_toList (xs := se), this]
            subst hse
            refine Good.same hr (u := .tuple #[en.key, en.val]) ?_ (.tup _ _ (.cons _ _ _ _ hk (.cons _ _ _ _ hv .nl)))
            simp [execOp, ho, Instr.entry, hux, hsh, run_getObj hw (by simp), run_getMap h1]
          · cases he
      · cases he
    · cases he
  · cases he

end Go.Sh

/-
  New memory: rows, boxes, literals, maps, slices.
-/
namespace Go.Sh
set_option linter.unusedVariables false
variable {P : Program} {ρ : Rho} {h : H} {w : World}
variable {od : Operand → Option Od} {ev : Od → SV} {a : Operand → Value} {X : Ctx} {o : Oper} {s : SOp} {v : SV} {h' : H}

/-- the cells that a value lays. -/
theorem cells_sound {z : SV} {u : Value} (hv : VR ρ z u) (hz : ∀ l, z ≠ .tup l) : LR ρ z.cells u.cells.toList ∧ ∀ c ∈ u.cells.toList, c.oneCell' = true := by
  have one : (∀ l, z ≠ .agg l) → z.cells = .cons z .nl := by
    intro hn
    cases z <;> first | rfl | (rename_i l; exact absurd rfl (hn l))
  cases hv with
  | agg l cs hl hf => exact ⟨hl, hf⟩
  | tup l vs hl => exact absurd rfl (hz l)
  | bool => exact ⟨.cons _ _ _ _ (.bool _) .nl, by simp [Value.cells, Value.oneCell']⟩
  | int => exact ⟨.cons _ _ _ _ (.int _ _) .nl, by simp [Value.cells, Value.oneCell']⟩
  | str n v s h hv => exact ⟨.cons _ _ _ _ (.str n v s h hv) .nl, by simp [Value.cells, Value.oneCell']⟩
  | ptr b o l h => exact ⟨.cons _ _ _ _ (.ptr b o l h) .nl, by simp [Value.cells, Value.oneCell']⟩
  | nilp => exact ⟨.cons _ _ _ _ .nilp .nl, by simp [Value.cells, Value.oneCell']⟩
  | slc b o n c c' l h hn hc => exact ⟨.cons _ _ _ _ (.slc b o n c c' l h hn hc) .nl, by simp [Value.cells, Value.oneCell']⟩
  | nils => exact ⟨.cons _ _ _ _ .nils .nl, by simp [Value.cells, Value.oneCell']⟩
  | emp a c' => exact ⟨.cons _ _ _ _ (.emp a c') .nl, by simp [Value.cells, Value.oneCell']⟩
  | tslc n a c' => exact ⟨.cons _ _ _ _ (.tslc n a c') .nl, by simp [Value.cells, Value.oneCell']⟩
  | map b l h => exact ⟨.cons _ _ _ _ (.map b l h) .nl, by simp [Value.cells, Value.oneCell']⟩
  | nilm => exact ⟨.cons _ _ _ _ .nilm .nl, by simp [Value.cells, Value.oneCell']⟩
  | fn f f' a c as cs h ha hc => exact ⟨.cons _ _ _ _ (.fn f f' a c as cs h ha hc) .nl, by simp [Value.cells, Value.oneCell']⟩
  | nilf => exact ⟨.cons _ _ _ _ .nilf .nl, by simp [Value.cells, Value.oneCell']⟩
  | ifc t v w h => exact ⟨.cons _ _ _ _ (.ifc t v w h) .nl, by simp [Value.cells, Value.oneCell']⟩
  | nili => exact ⟨.cons _ _ _ _ .nili .nl, by simp [Value.cells, Value.oneCell']⟩

theorem flat1_ne {v : SV} (h : v.flat1 = true) : (∀ l, v ≠ .agg l) ∧ ∀ l, v ≠ .tup l := by
  cases v <;> simp [SV.flat1] at h ⊢

theorem flat1_cells {v : SV} {u : Value} (hv : VR ρ v u) (h : v.flat1 = true) : u.cells = #[u] ∧ u.oneCell' = true := by
  cases hv <;> first | (simp [SV.flat1] at h; done) | exact ⟨rfl, rfl⟩

theorem run_newRow (e : TypeId) (c : Array Value) (w : World) : (newRow e c).run P w = .ok ⟨w.heap.size, 0, none⟩ (w.alloc (.cells c e)) := by
  simp [newRow]

theorem HR.newRow0 (hr : HR P ρ h w) {l : SV} {c : Array Value} {n : Nat} (e : TypeId) (hl : LR ρ l c.toList) (hn : c.toList.length = n) (hf : ∀ v ∈ c.toList, v.oneCell' = true) :
    HR P (upd ρ h.next ⟨w.heap.size, 0, 0, n, 0⟩) (h.newRow l n 0) (w.alloc (.cells c e)) ∧
    Ext ρ h w (upd ρ h.next ⟨w.heap.size, 0, 0, n, 0⟩) (h.newRow l n 0) (w.alloc (.cells c e)) := by
  have := hr.newRow n 0 0 e [] hl hn hf (by simp)
  simpa using this

theorem good_alloc {e : TypeId} (ho : o.op = .alloc e) (hs : opO P od (.alloc e) = some s) (hev : Evs ρ od ev a) (hr : HR P ρ h w)
    (he : evS s X ev h = some (.val v h')) : Good P ρ h w v h' (execOp a o) := by
  simp only [opO] at hs
  split at hs
  · rename_i z i hz hi
    cases hs
    simp only [evS] at he
    obtain ⟨rfl, rfl⟩ := val_inj he
    obtain ⟨i', u, hi', hu, hv, hrun, hne⟩ := zeroOf_sound2 (ρ := ρ) (w := w) hz
    obtain ⟨h1, h2⟩ := cells_sound hv hne
    obtain ⟨k1, k2⟩ := hr.newRow0 e h1 h1.len.symm h2
    refine Good.val (u := .pointer (some ⟨w.heap.size, 0, none⟩)) ?_ (.ptr _ 0 _ (upd_same _ _)) k1 k2
    simp [execOp, ho, Instr.alloc, hrun, newVar, run_newRow]
  · cases hs

theorem good_box {e : TypeId} {x : Operand} (ho : o.op = .box e x) (hs : opO P od (.box e x) = some s) (hev : Evs ρ od ev a) (hr : HR P ρ h w)
    (he : evS s X ev h = some (.val v h')) : Good P ρ h w v h' (execOp a o) := by
  simp only [opO] at hs
  split at hs
  · rename_i y i hy hi
    cases hs
    have vx := hev x y hy
    simp only [evS] at he
    split at he
    · rename_i l e1
      rw [e1] at vx
      obtain ⟨cs, hcs, hl, hf⟩ := vx.agg_inv
      cases hb : Nat.beq l.len i.size with
      | false => rw [hb] at he; cases he
      | true =>
        rw [hb, cond_true] at he
        obtain ⟨rfl, rfl⟩ := val_inj he
        rw [Nat.beq_eq] at hb
        obtain ⟨k1, k2⟩ := hr.newRow0 (c := cs) (n := i.size) e hl (by rw [← hb, hl.len]) hf
        refine Good.val (u := .pointer (some ⟨w.heap.size, 0, none⟩)) ?_ (.ptr _ 0 _ (upd_same _ _)) k1 k2
        simp [execOp, ho, Instr.box, hcs, newVar, run_newRow, Value.cells]
    · cases hb : (Nat.beq i.size 1 && (ev y).flat1) with
      | false => rw [hb] at he; cases he
      | true =>
        rw [hb, cond_true] at he
        obtain ⟨rfl, rfl⟩ := val_inj he
        rw [Bool.and_eq_true] at hb
        obtain ⟨c1, c2⟩ := flat1_cells vx hb.2
        obtain ⟨k1, k2⟩ := hr.newRow0 (c := #[a x]) (n := 1) e (.cons _ _ _ _ vx .nl) rfl (by simpa using c2)
        refine Good.val (u := .pointer (some ⟨w.heap.size, 0, none⟩)) ?_ (.ptr _ 0 _ (upd_same _ _)) k1 k2
        simp [execOp, ho, Instr.box, newVar, run_newRow, c1]
  · cases hs

theorem good_makeMap {t : TypeId} {r : Option Operand} (ho : o.op = .makeMap t r) (hac : ∀ v, a (.const v) = v) (hs : opO P od (.makeMap t r) = some s) (hev : Evs ρ od ev a) (hr : HR P ρ h w)
    (he : evS s X ev h = some (.val v h')) : Good P ρ h w v h' (execOp a o) := by
  have hrun : (Instr.makeMap t (r.map a)).run P w = .ok (.map (some w.heap.size)) (w.alloc (.map #[] 0)) ∧ s = .mkmap := by
    unfold opO at hs
    split at hs <;> try contradiction
    · rename_i heq; cases heq; cases hs
      exact ⟨by simp [Instr.makeMap], rfl⟩
    · rename_i k n heq; cases heq
      split at hs
      · rename_i hu
        cases hs
        exact ⟨by simp [Instr.makeMap, hac, asInt, asIntOf, run_underlying hu], rfl⟩
      · cases hs
  obtain ⟨hrun, rfl⟩ := hrun
  simp only [evS] at he
  obtain ⟨rfl, rfl⟩ := val_inj he
  obtain ⟨k1, k2⟩ := hr.new (.map .nl 0) (.map #[] 0) (loc0 w) rfl (fun ρ' h' w' hle hb hm => ⟨#[], 0, hb, .nl, by simp⟩) (by simp)
  refine Good.val (u := .map (some w.heap.size)) ?_ (.map _ (loc0 w) (upd_same _ _)) k1 k2
  simp [execOp, ho, hrun]

/-! Literals. -/
theorem foldl_set_list (off : Nat) (vs : List Value) (cs : Array Value) (h : off + vs.length ≤ cs.size) :
    (vs.zipIdx.foldl (fun cs (x : Value × Nat) => cs.setIfInBounds (off + x.2) x.1) cs).toList = cs.toList.take off ++ vs ++ cs.toList.drop (off + vs.length) := by
  obtain ⟨h1, h2⟩ := Great.foldl_set off vs 0 cs
  apply List.ext_getElem?
  intro k
  rw [get_app3, Array.getElem?_toList, h2 k]
  have hl : (List.take off cs.toList).length = off := by simp; omega
  rw [hl]
  simp only [Nat.add_zero]
  by_cases k1 : k < off
  · rw [if_neg (by omega), if_pos k1, List.getElem?_take, if_pos k1]; simp
  · rw [if_neg k1]
    by_cases k2 : k - off < vs.length
    · rw [if_pos (by omega), if_pos k2]
    · rw [if_neg (by omega), if_neg k2, List.getElem?_drop]
      have : off + vs.length + (k - off - vs.length) = k := by omega
      rw [this]; simp

theorem fill_step {v : SV} {u : Value} {off n : Nat} {l l' : SV} {cs : Array Value} (hv : VR ρ v u) (hl : LR ρ l cs.toList) (hf : ∀ c ∈ cs.toList, c.oneCell' = true)
    (hs : partFill v off n l = some l') :
    u.cells.size = n ∧ off + n ≤ cs.size ∧ LR ρ l' (u.cells.toList.zipIdx.foldl (fun cs (x : Value × Nat) => cs.setIfInBounds (off + x.2) x.1) cs).toList ∧
      (∀ c ∈ (u.cells.toList.zipIdx.foldl (fun cs (x : Value × Nat) => cs.setIfInBounds (off + x.2) x.1) cs).toList, c.oneCell' = true) ∧
      (u.cells.toList.zipIdx.foldl (fun cs (x : Value × Nat) => cs.setIfInBounds (off + x.2) x.1) cs).size = cs.size := by
  have hsz := (Great.foldl_set off u.cells.toList 0 cs).1
  have fin : u.cells.size = n → off + n ≤ cs.size → (∀ c ∈ u.cells.toList, c.oneCell' = true) → LR ρ l' (cs.toList.take off ++ u.cells.toList ++ cs.toList.drop (off + n)) →
      u.cells.size = n ∧ off + n ≤ cs.size ∧ LR ρ l' (u.cells.toList.zipIdx.foldl (fun cs (x : Value × Nat) => cs.setIfInBounds (off + x.2) x.1) cs).toList ∧
      (∀ c ∈ (u.cells.toList.zipIdx.foldl (fun cs (x : Value × Nat) => cs.setIfInBounds (off + x.2) x.1) cs).toList, c.oneCell' = true) ∧
      (u.cells.toList.zipIdx.foldl (fun cs (x : Value × Nat) => cs.setIfInBounds (off + x.2) x.1) cs).size = cs.size := by
    intro h1 h2 h3 h4
    have hlen : u.cells.toList.length = n := by simpa using h1
    have e := foldl_set_list off u.cells.toList cs (by rw [hlen]; exact h2)
    rw [hlen] at e
    refine ⟨h1, h2, by rw [e]; exact h4, ?_, hsz⟩
    rw [e]
    intro c hc
    simp only [List.mem_append] at hc
    rcases hc with (hc | hc) | hc
    · exact hf c (List.mem_of_mem_take hc)
    · exact h3 c hc
    · exact hf c (List.mem_of_mem_drop hc)
  unfold partFill at hs
  split at hs
  · rename_i c
    cases hb : Nat.beq c.len n with
    | false => rw [hb] at hs; cases hs
    | true =>
      rw [hb, cond_true] at hs
      rw [Nat.beq_eq] at hb
      obtain ⟨ds, rfl, hds, hfd⟩ := hv.agg_inv
      have hlen : ds.toList.length = n := by rw [← hds.len]; exact hb
      obtain ⟨h1, h2⟩ := hl.over hds hlen hs
      exact fin (by simpa [Value.cells] using hlen) (by simpa using h2) hfd h1
  · cases hb : (Nat.beq n 1 && v.flat1) with
    | false => rw [hb] at hs; cases hs
    | true =>
      rw [hb, cond_true] at hs
      rw [Bool.and_eq_true, Nat.beq_eq] at hb
      obtain ⟨rfl, hfl⟩ := hb
      obtain ⟨c1, c2⟩ := flat1_cells hv hfl
      obtain ⟨h1, h2⟩ := hl.set hv hs
      have h2' : off < cs.size := by simpa using h2
      refine fin (by rw [c1]; rfl) (by omega) (by rw [c1]; simpa using c2) ?_
      rw [c1]
      rw [List.set_eq_take_append_cons_drop, if_pos h2] at h1
      simpa using h1

/-- parts that know their places. -/
inductive PartsR (place : Nat → Option (Nat × Nat)) (od : Operand → Option Od) : List (Nat × Operand) → Parts → Prop
  | nil : PartsR place od [] []
  | cons {i off n : Nat} {x : Operand} {y : Od} {r : List (Nat × Operand)} {ps : Parts} (hp : place i = some (off, n)) (hx : od x = some y) (h : PartsR place od r ps) : PartsR place od ((i, x) :: r) ((off, n, y) :: ps)

theorem fill_sound {place : Nat → Option (Nat × Nat)} (hev : Evs ρ od ev a) : ∀ {parts : List (Nat × Operand)} {ps : Parts}, PartsR place od parts ps → ∀ {l l' : SV} {cs : Array Value}, LR ρ l cs.toList → (∀ c ∈ cs.toList, c.oneCell' = true) →
    fillS ev ps l = some l' → ∃ cs', Instr.fill place cs (parts.map fun x => (x.1, a x.2)) = some cs' ∧ LR ρ l' cs'.toList ∧ (∀ c ∈ cs'.toList, c.oneCell' = true) ∧ cs'.size = cs.size := by
  intro parts ps hp
  induction hp with
  | nil =>
    intro l l' cs hl hf hs
    simp only [fillS, Option.some.injEq] at hs; subst hs
    exact ⟨cs, rfl, hl, hf, rfl⟩
  | @cons i off n x y r ps hp hx h ih =>
    intro l l' cs hl hf hs
    simp only [fillS] at hs
    have key : ∃ l1, partFill (ev y) off n l = some l1 ∧ fillS ev ps l1 = some l' := by
      split at hs
      · exact ⟨_, by assumption, hs⟩
      · cases hs
    obtain ⟨l1, h1, h2⟩ := key
    obtain ⟨c1, c2, c3, c4, c5⟩ := fill_step (hev x y hx) hl hf h1
    obtain ⟨cs', d1, d2, d3, d4⟩ := ih c3 c4 h2
    refine ⟨cs', ?_, d2, d3, d4.trans c5⟩
    simp only [List.map_cons, Instr.fill, hp]
    rw [if_neg]
    · have : (Array.zipIdx (a x).cells).foldl (fun cs (x : Value × Nat) => cs.setIfInBounds (off + x.2) x.1) cs = ((a x).cells.toList.zipIdx.foldl (fun cs (x : Value × Nat) => cs.setIfInBounds (off + x.2) x.1) cs) := by
        rw [← Array.foldl_toList, Array.toList_zipIdx]
      rw [← this] at d1
      exact d1
    · simp only [c1, ne_eq, Bool.or_eq_true, decide_eq_true_eq, not_or]
      exact ⟨by simp, by omega⟩

end Go.Sh

/-
  Literals, made slices, bytes of strings.
-/
namespace Go.Sh
set_option linter.unusedVariables false
variable {P : Program} {ρ : Rho} {h : H} {w : World}
variable {od : Operand → Option Od} {ev : Od → SV} {a : Operand → Value} {X : Ctx} {o : Oper} {s : SOp} {v : SV} {h' : H}

theorem repL_length {α : Type} (l : List α) (n : Nat) : (repL l n).length = n * l.length := by
  induction n with
  | zero => simp [repL]
  | succ n ih => simp [repL, ih, Nat.add_mul]; omega

theorem repL_get {α : Type} (l : List α) (hl : 0 < l.length) : ∀ (n i : Nat), i < n * l.length → (repL l n)[i]? = l[i % l.length]? := by
  intro n
  induction n with
  | zero => intro i h; omega
  | succ n ih =>
    intro i h
    rw [Nat.add_mul, Nat.one_mul] at h
    simp only [repL]
    by_cases hi : i < l.length
    · rw [List.getElem?_append_left hi, Nat.mod_eq_of_lt hi]
    · have h2 : i - l.length < n * l.length := by omega
      have hm : i % l.length = (i - l.length) % l.length := Nat.mod_eq_sub_mod (by omega)
      rw [List.getElem?_append_right (by omega), ih _ h2, hm]

theorem repL_nil {α : Type} (n : Nat) : repL ([] : List α) n = [] := by
  induction n with
  | zero => rfl
  | succ n ih => simp [repL, ih]

theorem zeros_list (zero : Array Value) (n : Nat) : ((Array.range (n * zero.size)).map (zero[· % zero.size]!)).toList = repL zero.toList n := by
  by_cases h0 : zero.size = 0
  · have : zero = #[] := by simpa using h0
    subst this
    simp [repL_nil]
  · apply List.ext_getElem?
    intro i
    by_cases hi : i < n * zero.size
    · rw [repL_get zero.toList (by simpa using Nat.pos_of_ne_zero h0) n i (by simpa using hi)]
      have hm : i % zero.size < zero.size := Nat.mod_lt _ (Nat.pos_of_ne_zero h0)
      simp [hi, hm]
    · rw [List.getElem?_eq_none (by simpa using hi), List.getElem?_eq_none (by rw [repL_length]; simpa using hi)]

theorem repL_mem {α : Type} {l : List α} {n : Nat} {x : α} (h : x ∈ repL l n) : x ∈ l := by
  induction n with
  | zero => simp [repL] at h
  | succ n ih =>
    simp only [repL, List.mem_append] at h
    exact h.elim id ih

/-! Literals of structs and arrays. -/
theorem arrayParts_sound {size : Nat} : ∀ {parts : List (Nat × Operand)} {ps : Parts}, arrayParts od size parts = some ps → PartsR (fun i => some (i * size, size)) od parts ps := by
  intro parts
  induction parts with
  | nil => intro ps h; simp only [arrayParts, Option.some.injEq] at h; subst h; exact .nil
  | cons p r ih =>
    intro ps h
    obtain ⟨i, x⟩ := p
    simp only [arrayParts] at h
    split at h
    · rename_i y ps' hx hps
      cases h
      exact .cons rfl hx (ih hps)
    · cases h

theorem structParts_sound {places : List (Nat × Nat)} : ∀ {parts : List (Nat × Operand)} {ps : Parts}, structParts od places parts = some ps → PartsR (places.toArray[·]?) od parts ps := by
  intro parts
  induction parts with
  | nil => intro ps h; simp only [structParts, Option.some.injEq] at h; subst h; exact .nil
  | cons p r ih =>
    intro ps h
    obtain ⟨i, x⟩ := p
    simp only [structParts] at h
    split at h
    · rename_i off n y ps' hp hx hps
      cases h
      rw [nthL_eq] at hp
      exact .cons (by simpa using hp) hx (ih hps)
    · cases h

theorem placesO_sound : ∀ {fs : List Field} {l : List (Nat × Nat)}, placesO P fs = some l → fs.mapM (fun f => (P.info? f.type).map fun i => (f.offset, i.size)) = some l := by
  intro fs
  induction fs with
  | nil => intro l h; simp only [placesO, Option.some.injEq] at h; subst h; rfl
  | cons f fs ih =>
    intro l h
    simp only [placesO] at h
    split at h
    · rename_i j l' hj hl
      cases h
      rw [List.mapM_cons, hj, ih hl]; rfl
    · cases h

theorem good_build {t : TypeId} {parts : Array (Nat × Operand)} (ho : o.op = .build t parts) (hs : opO P od (.build t parts) = some s) (hev : Evs ρ od ev a) (hr : HR P ρ h w)
    (he : evS s X ev h = some (.val v h')) : Good P ρ h w v h' (execOp a o) := by
  simp only [opO] at hs
  have fin : ∀ (z : SV) (u : Value) (i : TypeInfo) (place : Nat → Option (Nat × Nat)) (ps : Parts), P.info? t = some i → i.zero = some u → VR ρ z u → (∀ l, z ≠ .tup l) → PartsR place od parts.toList ps →
      s = .build z.cells z.cells.len ps → (∀ cells, Instr.fill place u.cells ((parts.map fun x => (x.1, a x.2)).toList) = some cells → P.built t ((parts.map fun x => (x.1, a x.2)).toList) = some cells) → Good P ρ h w v h' (execOp a o) := by
    intro z u i place ps hi hz hv hne hps hse hb
    subst hse
    simp only [evS] at he
    split at he
    · rename_i l hl
      obtain ⟨rfl, rfl⟩ := val_inj he
      obtain ⟨c1, c2⟩ := cells_sound hv hne
      obtain ⟨cs', d1, d2, d3, d4⟩ := fill_sound hev hps c1 c2 hl
      have hbl := hb cs' (by rw [Array.toList_map]; exact d1)
      refine Good.same hr (u := .agg cs') ?_ (.agg _ _ d2 d3)
      simp [execOp, ho, run_build w t _ cs' hbl]
    · cases he
  split at hs
  · rename_i z fields hz hu
    split at hs
    · rename_i places hpl
      split at hs
      · rename_i ps hps
        cases hs
        obtain ⟨i, u, hi, hzu, hv, hrun, hne⟩ := zeroOf_sound2 (ρ := ρ) (w := w) hz
        refine fin z u i (places.toArray[·]?) ps hi hzu hv hne (structParts_sound hps) rfl (fun cells hf => ?_)
        simp only [Program.built, hi, hu, hzu, placesO_sound hpl]
        exact hf
      · cases hs
    · cases hs
  · rename_i z n el hz hu
    split at hs
    · rename_i ie hie
      split at hs
      · rename_i ps hps
        cases hs
        obtain ⟨i, u, hi, hzu, hv, hrun, hne⟩ := zeroOf_sound2 (ρ := ρ) (w := w) hz
        refine fin z u i _ ps hi hzu hv hne (arrayParts_sound hps) rfl (fun cells hf => ?_)
        simp only [Program.built, hi, hu, hzu, hie]
        exact hf
      · cases hs
    · cases hs
  · cases hs

theorem good_buildSlice {t : TypeId} {len : Nat} {parts : Array (Nat × Operand)} (ho : o.op = .buildSlice t len parts) (hs : opO P od (.buildSlice t len parts) = some s) (hev : Evs ρ od ev a) (hr : HR P ρ h w)
    (he : evS s X ev h = some (.val v h')) : Good P ρ h w v h' (execOp a o) := by
  simp only [opO] at hs
  split at hs
  · rename_i e hu
    split at hs
    · rename_i ie z hie hz
      cases hc : (Nat.ble (len * ie.size) 1048576 && Nat.beq z.cells.len ie.size) with
      | false => rw [hc] at hs; cases hs
      | true =>
        rw [hc, cond_true] at hs
        rw [Bool.and_eq_true, Nat.beq_eq] at hc
        obtain ⟨hc1, hc2⟩ := hc
        have hc1 := Nat.le_of_ble_eq_true hc1
        split at hs
        · rename_i ps hps
          cases hs
          obtain ⟨i, u, hi, hzu, hv, hrun, hne⟩ := zeroOf_sound2 (ρ := ρ) (w := w) hz
          rw [hie] at hi; cases hi
          obtain ⟨c1, c2⟩ := cells_sound hv hne
          have hsz : u.cells.size = ie.size := by
            have := c1.len; rw [hc2] at this; simpa using this.symm
          simp only [evS] at he
          split at he
          · rename_i l hl
            obtain ⟨rfl, rfl⟩ := val_inj he
            have hzl := zeros_list u.cells len
            have hrep := c1.rep len
            rw [← hzl, hsz] at hrep
            have hrf : ∀ c ∈ ((Array.range (len * ie.size)).map (u.cells[· % ie.size]!)).toList, c.oneCell' = true := by
              intro c hc
              have hzl' := hzl
              rw [hsz] at hzl'
              rw [hzl'] at hc
              exact c2 c (repL_mem hc)
            obtain ⟨cs', d1, d2, d3, d4⟩ := fill_sound hev (arrayParts_sound hps) hrep hrf hl
            have d4' : cs'.size = len * ie.size := by rw [d4]; simp
            obtain ⟨k1, k2⟩ := hr.newRow0 (c := cs') (n := len * ie.size) e d2 (by simpa using d4') d3
            have hbs : (Instr.buildSlice t len (parts.map fun x => (x.1, a x.2))).run P w = .ok (.slice (some ⟨w.heap.size, 0, none⟩) len len) (w.alloc (.cells cs' e)) := by
              have hsm : ¬ 16777216 < len * ie.size := by omega
              by_cases h0 : len * ie.size = 0
              · have hE : (Array.range (len * ie.size)).map (u.cells[· % ie.size]!) = #[] := by rw [h0]; simp
                rw [hE] at d1
                have hE2 : ∀ (f : Nat → Value), Array.map f (Array.range 0) = #[] := fun f => by simp
                simp [Instr.buildSlice, run_underlying hu, run_sizeOf hie, h0, hE2, d1, run_newRow]
              · have d1' : Instr.fill (fun i => some (i * ie.size, ie.size)) ((Array.range (len * ie.size)).map (u.cells[· % u.cells.size]!)) (parts.map fun x => (x.1, a x.2)).toList = some cs' := by
                  rw [hsz, Array.toList_map]; exact d1
                exact run_buildSlice w t e len _ cs' ie u hu hie hzu (by omega) h0 d1'
            refine Good.val (u := .slice (some ⟨w.heap.size, 0, none⟩) len len) ?_ (.slc _ 0 len len len _ (upd_same _ _) (Nat.le_refl _) (.inl rfl)) k1 k2
            simp [execOp, ho, hbs]
          · cases he
        · cases hs
    · cases hs
  · cases hs

theorem cellsB_zeros (n : Nat) : cellsB n 0 = List.replicate n (cellB 0 0) := by
  apply List.ext_getElem
  · simp
  · intro i h1 h2
    simp [cellsB, cellB, byteOf_eq]

theorem repL_replicate {α : Type} (x : α) (k n : Nat) : repL (List.replicate k x) n = List.replicate (k * n) x := by
  induction n with
  | zero => simp [repL]
  | succ n ih =>
    simp only [repL, ih, List.replicate_append_replicate]
    congr 1
    rw [Nat.mul_add]; omega

theorem zerosS_sound {z : SV} {ws : List Value} (hz : LR ρ z ws) (n : Nat) : LR ρ (zerosS z n) (repL ws n) := by
  unfold zerosS
  split
  · rename_i k v
    by_cases hv : v = 0
    · subst hv
      rw [beq_true rfl, cond_true]
      cases hz with
      | byt _ _ _ ws hv hl =>
        cases hl
        have e : cellsB k 0 ++ [] = List.replicate k (cellB 0 0) := by rw [List.append_nil, cellsB_zeros]
        rw [e, repL_replicate, ← cellsB_zeros]
        have := LR.bcat (ρ := ρ) (n := k * n) (v := 0) (l := .nl) (ws := []) (Nat.pow_pos (by decide)) .nl
        simpa using this
    · rw [beq_false hv, cond_false]; exact hz.rep n
  · rename_i v
    by_cases hv : v = 0
    · subst hv
      rw [beq_true rfl, cond_true]
      cases hz with
      | cons _ _ u us hv hl =>
        cases hl
        cases hv
        have e : [Value.int .u8 (Int.ofNat 0)] = List.replicate 1 (cellB 0 0) := rfl
        rw [e, repL_replicate, ← cellsB_zeros, Nat.one_mul]
        have := LR.bcat (ρ := ρ) (n := n) (v := 0) (l := .nl) (ws := []) (Nat.pow_pos (by decide)) .nl
        simpa using this
    · rw [beq_false hv, cond_false]; exact hz.rep n
  · exact hz.rep n

theorem natOf_int {x : SV} {n : Nat} {u : Value} (h : natOf x = some n) (hv : VR ρ x u) : ∃ k, u = .int k (Int.ofNat n) := by
  unfold natOf at h
  split at h
  · cases h; cases hv; exact ⟨_, rfl⟩
  · cases h

theorem wrapN (n : Nat) (h : n < 9223372036854775808) : IntKind.i64.wrap (Int.ofNat n) = Int.ofNat n := by
  rw [IntKind.wrap_i64]
  show ((n : Int) + _) % _ - _ = (n : Int)
  omega

theorem good_makeSlice {t : TypeId} {l c : Operand} (ho : o.op = .makeSlice t l c) (hs : opO P od (.makeSlice t l c) = some s) (hev : Evs ρ od ev a) (hr : HR P ρ h w)
    (he : evS s X ev h = some (.val v h')) : Good P ρ h w v h' (execOp a o) := by
  simp only [opO] at hs
  split at hs
  · rename_i e l' c' hu hl hc
    split at hs
    · rename_i ie z hie hz
      cases hb : Nat.beq z.cells.len ie.size with
      | false => rw [hb] at hs; cases hs
      | true =>
        rw [hb, cond_true] at hs
        rw [Nat.beq_eq] at hb
        cases hs
        have vl := hev l l' hl
        have vc := hev c c' hc
        obtain ⟨i, u, hi, hzu, hv, hrun, hne⟩ := zeroOf_sound2 (ρ := ρ) (w := w) hz
        rw [hie] at hi; cases hi
        obtain ⟨c1, c2⟩ := cells_sound hv hne
        have hsz : u.cells.size = ie.size := by
          have := c1.len; rw [hb] at this; simpa using this.symm
        simp only [evS] at he
        split at he
        · rename_i n m hn hm
          cases hq : (Nat.ble n m && Nat.ble (Nat.mul m ie.bytes) 1099511627776 && Nat.blt m 1099511627776) with
          | false => rw [hq] at he; cases he
          | true =>
            rw [hq, cond_true] at he
            obtain ⟨rfl, rfl⟩ := val_inj he
            simp only [Bool.and_eq_true, Nat.blt_eq] at hq
            obtain ⟨⟨hq1, hq2⟩, hq3⟩ := hq
            have hq1 := Nat.le_of_ble_eq_true hq1
            have hq2 : m * ie.bytes ≤ 1099511627776 := Nat.le_of_ble_eq_true hq2
            obtain ⟨kl, hul⟩ := natOf_int hn vl
            obtain ⟨kc, huc⟩ := natOf_int hm vc
            have hzs := zerosS_sound c1 m
            have hzl := zeros_list u.cells m
            rw [hsz] at hzl
            obtain ⟨k1, k2⟩ := hr.newRow0 (c := (Array.range (m * ie.size)).map (u.cells[· % ie.size]!)) (n := m * ie.size) e (by rw [hzl]; exact hzs) (by simp) (by rw [hzl]; exact fun x hx => c2 x (repL_mem hx))
            refine Good.val (u := .slice (some ⟨w.heap.size, 0, none⟩) n m) ?_ (.slc _ 0 n m m _ (upd_same _ _) hq1 (.inl rfl)) k1 k2
            have w1 : IntKind.i64.wrap (Int.ofNat n) = Int.ofNat n := wrapN n (by omega)
            have w2 : IntKind.i64.wrap (Int.ofNat m) = Int.ofNat m := wrapN m (by omega)
            have b1 : ¬ ((m : Int) < 0) := by omega
            have b2 : ¬ ((ie.bytes : Int) * (m : Int) > 281474976710656) := by
              have e1 : (ie.bytes : Int) * (m : Int) = ((m * ie.bytes : Nat) : Int) := by rw [Nat.mul_comm]; rfl
              rw [e1]; omega
            have b3 : ¬ ((n : Int) < 0) := by omega
            have b4 : ¬ ((m : Int) < (n : Int)) := by omega
            have hms : (Instr.makeSlice t (a l) (a c)).run P w = .ok (.slice (some ⟨w.heap.size, 0, none⟩) n m) (w.alloc (.cells ((Array.range (m * ie.size)).map (u.cells[· % ie.size]!)) e)) := by
              have w1' : IntKind.i64.wrap (n : Int) = (n : Int) := w1
              have w2' : IntKind.i64.wrap (m : Int) = (m : Int) := w2
              have b5 : ¬ (140737488355328 < m * ie.bytes) := by omega
              have b2' : ¬ (281474976710656 < (ie.bytes : Int) * (m : Int)) := by omega
              have hE2 : ∀ (f : Nat → Value), Array.map f (Array.range 0) = #[] := fun f => by simp
              by_cases h0 : m * ie.size = 0
              · simp [Instr.makeSlice, run_underlying hu, hul, huc, asInt, asIntOf, run_typeInfo hie, w1', w2', b2', askRoom, roomBytes, run_sizeOf hie, h0, run_newRow, hE2]
                intro hh; exfalso; omega
              · simp [Instr.makeSlice, run_underlying hu, hul, huc, asInt, asIntOf, run_typeInfo hie, w1', w2', b2', askRoom, roomBytes, run_sizeOf hie, h0, run_newRow, hrun, hsz]
                intro hh; exfalso; omega
            simp [execOp, ho, hms]
        · cases he
    · cases hs
  · cases hs

/-- A new row; behind its cells there may be more, and something may be frozen. -/
theorem HR.newRowF (hr : HR P ρ h w) {l : SV} {ws : List Value} (n g ex : Nat) (e : TypeId) (fr : Nat × Nat) (sp : List Value) (hl : LR ρ l ws) (hn : ws.length = n) (hf : ∀ v ∈ ws, v.oneCell' = true) (hsp : ex * g ≤ sp.length)
    (hfr : ∀ i, i < n + ex * g → ¬ (fr.1 ≤ i ∧ i < fr.2)) :
    HR P (upd ρ h.next ⟨w.heap.size, 0, ex, n, g⟩) (h.newRow l n g) (w.alloc (.cells (ws ++ sp).toArray e fr)) ∧
    Ext ρ h w (upd ρ h.next ⟨w.heap.size, 0, ex, n, g⟩) (h.newRow l n g) (w.alloc (.cells (ws ++ sp).toArray e fr)) := by
  refine hr.new (.row l n g false h.next) _ _ rfl (fun ρ' h' w' hle hb hm => ?_) (by simp)
  subst hn
  refine ⟨rfl, rfl, _, _, _, hb, ?_, ?_, ?_, ?_⟩
  · rw [seg_all]; exact hl.mono hle
  · simp; omega
  · rw [seg_all]; exact hf
  · intro i h1 h2; exact hfr i (by simp only at h2; omega)

theorem grownCap_ge (w : World) (need old : Nat) (e : TypeId) : need ≤ grownCap w need old e := by
  simp only [grownCap, Question.cut]; omega

theorem bytes_cellsB {n v : Nat} {s : ByteArray} (h : s.data.toList.map UInt8.toNat = (List.range n).map (byteOf v)) : s.data.toList.map (fun b => Value.int .u8 (Int.ofNat b.toNat)) = cellsB n v := by
  have : s.data.toList.map (fun b => Value.int .u8 (Int.ofNat b.toNat)) = (s.data.toList.map UInt8.toNat).map (fun k => Value.int .u8 (Int.ofNat k)) := by
    rw [List.map_map]; rfl
  rw [this, h, List.map_map]; rfl

theorem good_toBytes {src dst : TypeId} {x : Operand} {y : Od} {e : TypeId} (ho : o.op = .convert src dst x) (hx : od x = some y) (h1 : P.underlying src = some .string) (h2 : P.underlying dst = some (.slice e)) (h3 : P.underlying e = some (.int .u8))
    (hev : Evs ρ od ev a) (hr : HR P ρ h w) (he : evS (.toBytes y) X ev h = some (.val v h')) : Good P ρ h w v h' (execOp a o) := by
  have vx := hev x y hx
  simp only [evS] at he
  split at he
  · rename_i n b hy
    rw [hy] at vx
    obtain ⟨rfl, rfl⟩ := val_inj he
    obtain ⟨s, hs, hb, hlt⟩ := vx.str_inv
    have hsz := str_size hb
    have hrun := run_bytes_of_string (P := P) w src dst e s h1 h2 h3
    have hge := grownCap_ge w s.size 0 e
    generalize hcap : grownCap w s.size 0 e = cap at hrun hge
    have hrow : bytesRow s cap = (cellsB n b ++ List.replicate (cap - s.size) (Value.int .u8 0)).toArray := by
      apply Array.toList_inj.1
      have := bytes_cellsB hb
      simp only [bytesRow, Array.toList_append, Array.toList_map, Array.toList_replicate]
      rw [← this]; rfl
    have hsize : (bytesRow s cap).size = cap := by rw [hrow]; simp; omega
    have hlr : LR ρ (bcat n b .nl) (cellsB n b) := by
      have := LR.bcat (ρ := ρ) hlt .nl
      simpa using this
    obtain ⟨k1, k2⟩ := hr.drew.newRowF n 1 (cap - n) e (cap, cap + 1) (List.replicate (cap - s.size) (Value.int .u8 0)) hlr (by simp) (by
      intro c hc
      simp only [cellsB, List.mem_map] at hc
      obtain ⟨i, _, rfl⟩ := hc
      rfl) (by simp; omega) (fun i hi => by simp; omega)
    rw [← hrow] at k1 k2
    rw [hsize] at hrun
    refine Good.val (u := .slice (some ⟨w.heap.size, 0, none⟩) n cap) ?_ (.slc _ 0 n n cap _ (upd_same _ _) (Nat.le_refl _) (.inr ⟨?_, ?_, ?_⟩)) k1 ((Ext.drew).trans k2 hr.fresh)
    · simp [execOp, ho, hs, hrun, hsz]
    · simp only; omega
    · simp
    · simp
  · cases he

end Go.Sh

/-
  Stores and copies.
-/
namespace Go.Sh
set_option linter.unusedVariables false
variable {P : Program} {ρ : Rho} {h : H} {w : World}
variable {od : Operand → Option Od} {ev : Od → SV} {a : Operand → Value} {X : Ctx} {o : Oper} {s : SOp} {v : SV} {h' : H}

theorem good_store {t : TypeId} {x y : Operand} (ho : o.op = .store t x y) (hs : opO P od (.store t x y) = some s) (hev : Evs ρ od ev a) (hr : HR P ρ h w)
    (he : evS s X ev h = some (.val v h')) : Good P ρ h w v h' (execOp a o) := by
  simp only [opO] at hs
  split at hs
  · rename_i i x' y' hi hx hy
    cases hs
    have vx := hev x x' hx
    have vy := hev y y' hy
    simp only [evS] at he
    split at he
    · rename_i b k ex
      rw [ex] at vx
      obtain ⟨l, hl, hux⟩ := vx.ptr_inv
      have fin : ∀ w', (storeCells ⟨l.rb, l.sh + k, none⟩ (a y).cells.toList).run P w = .ok () w' → (a y).cells.size = i.size → (execOp a o).run P w = .ok .skip w' := by
        intro w' h1 h2
        simp [execOp, ho, hux, Instr.storeAt, Instr.sureAddr, storeVar, run_sizeOf hi, h2, h1]
      split at he
      · rename_i c ey
        rw [ey] at vy
        obtain ⟨ds, hds, hdl, hdf⟩ := vy.agg_inv
        cases hb : Nat.beq c.len i.size with
        | false => rw [hb] at he; cases he
        | true =>
          rw [hb, cond_true] at he
          rw [Nat.beq_eq] at hb
          split at he
          · rename_i h2 hset
            obtain ⟨rfl, rfl⟩ := val_inj he
            have hlen : ds.toList.length = i.size := by rw [← hdl.len]; exact hb
            obtain ⟨w', g1, g2, g3⟩ := hr.setRange hset hl hdl hlen hdf
            exact Good.skip (fin w' (by rw [hds]; exact g1) (by rw [hds]; simpa [Value.cells] using hlen)) g2 g3
          · cases he
      · cases he
      · rename_i hna hnt
        cases hb : Nat.beq i.size 1 with
        | false => rw [hb] at he; cases he
        | true =>
          rw [hb, cond_true] at he
          rw [Nat.beq_eq] at hb
          split at he
          · rename_i h2 hset
            obtain ⟨rfl, rfl⟩ := val_inj he
            have hfl : (ev y').flat1 = true := by
              cases e : ev y' <;> first | rfl | (exact absurd e (hna _)) | (exact absurd e (hnt _))
            obtain ⟨c1, c2⟩ := flat1_cells vy hfl
            obtain ⟨w', g1, g2, g3⟩ := hr.setCell hset hl vy c2
            exact Good.skip (fin w' (by rw [c1]; exact g1) (by rw [c1, hb]; rfl)) g2 g3
          · cases he
    · cases he
  · cases hs

/-! The elements of a slice or a string, as the model gathers them. -/
theorem elems_sound (hr : HR P ρ h w) {es : Nat} {x : SV} {u : Value} (hx : VR ρ x u) {n : Nat} {l : SV} (he : elems h es x = some (n, l)) :
    (∀ w', (Builtin.lenOf u).run P w' = .ok n w') ∧ ∃ ws : List Value, LR ρ l ws ∧ (∀ c ∈ ws, c.oneCell' = true) ∧ ws.length = n * es ∧
      ∀ w' : World, (∀ r, r < w.heap.size → w'.heap[r]? = w.heap[r]?) → ∀ k, k ≤ n → (Builtin.firstCells es k u).run P w' = .ok (ws.take (k * es)).toArray w' := by
  unfold elems at he
  split at he
  · cases he
    rw [hx.nils_inv]
    exact ⟨fun w' => by simp [Builtin.lenOf], [], .nl, by simp, by simp, fun w' _ k hk => by simp [Builtin.firstCells]⟩
  · cases he
    obtain ⟨ad, c, rfl⟩ := hx.emp_inv
    refine ⟨fun w' => by simp [Builtin.lenOf], [], .nl, by simp, by simp, fun w' _ k hk => ?_⟩
    have : k = 0 := by omega
    subst this
    simp only [Builtin.firstCells, Nat.zero_mul]
    exact run_loadCells_list w' ad [] (by simp)
  · rename_i b k n' c
    split at he
    · rename_i l' hl
      cases he
      obtain ⟨loc, c', hloc, rfl, hnc, hcap⟩ := hx.slc_inv
      obtain ⟨ws, w1, w2, w3, w4⟩ := hr.range hl hloc
      refine ⟨fun w' => by simp [Builtin.lenOf], ws, w1, w4, w2, fun w' hw' j hj => ?_⟩
      have hlen : (ws.take (j * es)).length = j * es := by
        have h1 : ws.length = n * es := w2
        have h2 : j * es ≤ n * es := Nat.mul_le_mul_right _ hj
        rw [List.length_take]; omega
      have := run_cells (P := P) (w := w') (l := loc) (k := k) hlen (fun i v hi => by
        have hv : ws[i]? = some v := by
          rw [List.getElem?_take] at hi
          split at hi
          · exact hi
          · cases hi
        have hc := w3 i v hv
        have hlt : loc.rb < w.heap.size := hr.lt b loc hloc
        simp only [World.cell?] at hc ⊢
        rw [hw' _ hlt]; exact hc)
      simpa [Builtin.firstCells] using this
    · cases he
  · rename_i n' v
    cases hb : Nat.beq es 1 with
    | false => rw [hb] at he; cases he
    | true =>
      rw [hb, cond_true] at he
      rw [Nat.beq_eq] at hb
      subst hb
      cases he
      obtain ⟨s, rfl, h1, h2⟩ := hx.str_inv
      have hsz := str_size h1
      refine ⟨fun w' => by simp [Builtin.lenOf, hsz], cellsB n v, ?_, ?_, by simp, fun w' _ k hk => ?_⟩
      · have := LR.bcat (ρ := ρ) h2 .nl
        simpa using this
      · intro c hc
        simp only [cellsB, List.mem_map] at hc
        obtain ⟨i, _, rfl⟩ := hc
        rfl
      · have hb := bytes_cellsB h1
        simp only [Builtin.firstCells, Nat.mul_one, Sem.run_pure]
        congr 1
        apply Array.toList_inj.1
        rw [← hb, ← List.map_take]
        simp [ByteArray.data_extract, Array.toList_extract, List.extract_eq_take_drop]
  · cases he

theorem good_copy {c : Call} (ho : o.op = .call c) (hc : c.callee = .builtin .copy) (hs : builtinO P od .copy c.argTypes.toList c.args.toList = some s) (hev : Evs ρ od ev a) (hr : HR P ρ h w)
    (he : evS s X ev h = some (.val v h')) : Good P ρ h w v h' (execOp a o) := by
  unfold builtinO at hs
  split at hs <;> try contradiction
  rename_i _ t r d x _ hts has
  obtain ⟨cs, hrun⟩ := run_builtin (P := P) (a := a) ho hc w
  rw [args2 has] at hrun
  have ht := types1 hts
  split at hs
  · rename_i e d' x' hu hd hx
    split at hs
    · rename_i i hi
      cases hs
      have vd := hev d d' hd
      have vx := hev x x' hx
      simp only [evS] at he
      split at he
      · cases he
      · rename_i n l hel
        obtain ⟨f1, ws, f2, f3, f4, f5⟩ := elems_sound hr vx hel
        split at he
        · rename_i ed
          rw [ed] at vd
          obtain ⟨rfl, rfl⟩ := val_inj he
          have := f5 w (fun _ _ => rfl) 0 (Nat.zero_le _)
          refine Good.same hr (u := goInt 0) ?_ (VR_goInt 0)
          rw [hrun]
          simp [builtin, Builtin.copy_, ht, run_underlying hu, vd.nils_inv, f1, run_sizeOf hi, this]
        · rename_i ed
          rw [ed] at vd
          obtain ⟨rfl, rfl⟩ := val_inj he
          obtain ⟨ad, c', hdu⟩ := vd.emp_inv
          have := f5 w (fun _ _ => rfl) 0 (Nat.zero_le _)
          refine Good.same hr (u := goInt 0) ?_ (VR_goInt 0)
          rw [hrun]
          simp [builtin, Builtin.copy_, ht, run_underlying hu, hdu, f1, run_sizeOf hi, this, storeCells]
        · rename_i b k m c' ed
          rw [ed] at vd
          obtain ⟨loc, c'', hloc, hdu, _, _⟩ := vd.slc_inv
          have hmin : Nat.min n m ≤ n := Nat.min_le_left _ _
          have hfc := f5 w (fun _ _ => rfl) (Nat.min n m) hmin
          cases hb : Nat.beq (Nat.min n m) 0 with
          | true =>
            simp only [hb, cond_true] at he
            obtain ⟨rfl, rfl⟩ := val_inj he
            rw [Nat.beq_eq] at hb
            rw [hb] at hfc
            refine Good.same hr (u := goInt 0) ?_ (VR_goInt 0)
            rw [hrun]
            simp [builtin, Builtin.copy_, ht, run_underlying hu, hdu, f1, run_sizeOf hi, hfc, hb, storeCells]
          | false =>
            simp only [hb, cond_false] at he
            split at he
            · rename_i l2 htk
              split at he
              · rename_i h2 hset
                obtain ⟨rfl, rfl⟩ := val_inj he
                obtain ⟨g1, g2⟩ := f2.take htk
                obtain ⟨w', k1, k2, k3⟩ := hr.setRange hset hloc g1 (by
                  have g2' : Nat.min n m * i.size ≤ ws.length := g2
                  rw [List.length_take]
                  exact Nat.min_eq_left g2') (fun c hc => f3 c (List.mem_of_mem_take hc))
                have k1' : (storeCells ⟨loc.rb, loc.sh + k, none⟩ (ws.take (Nat.min n m * i.size))).run P w = .ok () w' := k1
                refine Good.val (u := goInt (Nat.min n m)) ?_ (VR_goInt _) k2 k3
                rw [hrun]
                simp [builtin, Builtin.copy_, ht, run_underlying hu, hdu, f1, run_sizeOf hi, hfc, k1']
              · cases he
            · cases he
        · cases he
    · cases hs
  · cases hs

end Go.Sh

/-
  Append.
-/
namespace Go.Sh
set_option linter.unusedVariables false
variable {P : Program} {ρ : Rho} {h : H} {w : World}
variable {od : Operand → Option Od} {ev : Od → SV} {a : Operand → Value} {X : Ctx} {o : Oper} {s : SOp} {v : SV} {h' : H}

/-- what an append puts behind: elements of a slice or a string, or so many zeros. -/
structure AppArg (P : Program) (w : World) (ts : Array TypeId) (e : TypeId) (i : TypeInfo) (x : Value) (n : Nat) (news : List Value) : Prop where
  len : news.length = n * i.size
  arg : ∃ tx dx, ts[1]? = some tx ∧ P.underlying tx = some dx ∧
    ((∃ k, dx = .int k) ∧ (∃ k, x = .int k (Int.ofNat n)) ∧ n * i.bytes ≤ 1099511627776 ∧ n < 1099511627776 ∧ (∃ zu, i.zero = some zu ∧ zu.cells.size = i.size ∧ news = repL zu.cells.toList n) ∨
     (∀ k, dx ≠ .int k) ∧ (∀ w', (Builtin.lenOf x).run P w' = .ok n w') ∧ ∀ w' : World, (∀ r, r < w.heap.size → w'.heap[r]? = w.heap[r]?) → (Builtin.firstCells i.size n x).run P w' = .ok news.toArray w')

theorem zeroCells_list (zu : Value) (n : Nat) : (Builtin.zeroCells zu.cells n) = (repL zu.cells.toList n).toArray := by
  apply Array.toList_inj.1
  have := zeros_list zu.cells n
  simpa [Builtin.zeroCells] using this

set_option maxHeartbeats 4000000 in
theorem app_fits {ts : Array TypeId} {t ty e : TypeId} {i : TypeInfo} (ht0 : ts[0]? = some t) (hu : P.underlying t = some (.slice e)) (hi : P.info? e = some i) {x : Value} {n : Nat} {news : List Value} (hx : AppArg P w ts e i x n news)
    (ad : Addr) (sLen sCap : Nat) (hf : sLen + n ≤ sCap) {w' : World} (hst : (storeCells (ad.add (sLen * i.size)) news).run P w = .ok () w') :
    (Builtin.append_ ts ty #[.slice (some ad) sLen sCap, x]).run P w = .ok (.slice (some ad) (sLen + n) sCap) w' := by
  obtain ⟨tx, dx, h1, h2, hc⟩ := hx.arg
  rcases hc with ⟨⟨k, rfl⟩, ⟨k', rfl⟩, hb, hn, zu, hz, hzs, rfl⟩ | ⟨hni, hl, hfc⟩
  · have w1 : IntKind.i64.wrap (n : Int) = (n : Int) := wrapN n (by omega)
    have b1 : ¬ ((n : Int) < 0) := by omega
    have b2 : ¬ (281474976710656 < (n : Int) * (i.bytes : Int)) := by
      have e1 : (n : Int) * (i.bytes : Int) = ((n * i.bytes : Nat) : Int) := rfl
      rw [e1]; omega
    by_cases h0 : n * i.size = 0
    · have hr0 : repL zu.cells.toList n = [] := by
        apply List.eq_nil_of_length_eq_zero
        rw [repL_length]; simpa [hzs] using h0
      rw [hr0] at hst
      simp [Builtin.append_, ht0, h1, run_underlying hu, run_underlying h2, run_sizeOf hi, run_typeInfo hi, asInt, asIntOf, w1, b1, b2, hf, h0, hst]
    · simp [Builtin.append_, ht0, h1, run_underlying hu, run_underlying h2, run_sizeOf hi, run_typeInfo hi, asInt, asIntOf, w1, b1, b2, hf, h0, zeroValue, hz, zeroCells_list, hst]
  · have := hfc w (fun _ _ => rfl)
    cases dx <;> first
      | (rename_i k; exact absurd rfl (hni k))
      | simp [Builtin.append_, ht0, h1, run_underlying hu, run_underlying h2, run_sizeOf hi, hl, hf, this, hst]

theorem app_nil0 {ts : Array TypeId} {t ty e : TypeId} {i : TypeInfo} (ht0 : ts[0]? = some t) (hu : P.underlying t = some (.slice e)) (hi : P.info? e = some i) {x : Value} {news : List Value} (hx : AppArg P w ts e i x 0 news) :
    (Builtin.append_ ts ty #[.slice none 0 0, x]).run P w = .ok (.slice none 0 0) w := by
  obtain ⟨tx, dx, h1, h2, hc⟩ := hx.arg
  rcases hc with ⟨⟨k, rfl⟩, ⟨k', rfl⟩, hb, hn, zu, hz, hzs, rfl⟩ | ⟨hni, hl, hfc⟩
  · have w1 : IntKind.i64.wrap 0 = 0 := by decide
    simp [Builtin.append_, ht0, h1, run_underlying hu, run_underlying h2, run_sizeOf hi, run_typeInfo hi, asInt, asIntOf, w1]
  · have := hfc w (fun _ _ => rfl)
    cases dx <;> first
      | (rename_i k; exact absurd rfl (hni k))
      | simp [Builtin.append_, ht0, h1, run_underlying hu, run_underlying h2, run_sizeOf hi, hl, this]

set_option maxHeartbeats 4000000 in
/-- an append that needs new memory. -/
theorem app_grow {ts : Array TypeId} {t ty e : TypeId} {i : TypeInfo} {zu : Value} (ht0 : ts[0]? = some t) (hu : P.underlying t = some (.slice e)) (hi : P.info? e = some i) (hz : i.zero = some zu) {x : Value} {n : Nat} {news : List Value} (hx : AppArg P w ts e i x n news)
    (base : Option Addr) (sLen sCap : Nat) (hf : sCap < sLen + n) (olds : List Value) (hold : (Builtin.firstCells i.size sLen (.slice base sLen sCap)).run P w.drew = .ok olds.toArray w.drew)
    (hb1 : (sLen + n) * i.bytes ≤ 1099511627776) (hb2 : sLen + n < 1099511627776) :
    (Builtin.append_ ts ty #[.slice base sLen sCap, x]).run P w = .ok (.slice (some ⟨w.heap.size, 0, none⟩) (sLen + n) (grownCap w (sLen + n) sCap e))
      (w.drew.alloc (.cells ((olds ++ news) ++ repL zu.cells.toList (grownCap w (sLen + n) sCap e - (sLen + n))).toArray e)) := by
  have hn : ¬ (sLen + n ≤ sCap) := by omega
  have h63 : ¬ (9223372036854775807 < ((sLen : Int) + (n : Int))) := by omega
  have h48 : ¬ (281474976710656 < Builtin.nextslicecap (sLen + n) sCap * i.bytes) := by
    have := growslice_fits hf (bytes := i.bytes) (by omega); omega
  obtain ⟨tx, dx, h1, h2, hc⟩ := hx.arg
  rcases hc with ⟨⟨k, rfl⟩, ⟨k', rfl⟩, hb, hnn, zu', hz', hzs, rfl⟩ | ⟨hni, hl, hfc⟩
  · rw [hz] at hz'; cases hz'
    have w1 : IntKind.i64.wrap (n : Int) = (n : Int) := wrapN n (by omega)
    have b1 : ¬ ((n : Int) < 0) := by omega
    have b2 : ¬ (281474976710656 < (n : Int) * (i.bytes : Int)) := by
      have e1 : (n : Int) * (i.bytes : Int) = ((n * i.bytes : Nat) : Int) := rfl
      rw [e1]; omega
    by_cases h0 : n * i.size = 0
    · have hr0 : repL zu.cells.toList n = [] := by
        apply List.eq_nil_of_length_eq_zero
        rw [repL_length]; simpa [hzs] using h0
      simp [Builtin.append_, ht0, h1, run_underlying hu, run_underlying h2, run_sizeOf hi, run_typeInfo hi, asInt, asIntOf, w1, b1, b2, hn, h63, h48, Question.forced, zeroValue, hz, zeroCells_list, hold, run_newRow, grownCap, askRoom, hr0]
    · simp [Builtin.append_, ht0, h1, run_underlying hu, run_underlying h2, run_sizeOf hi, run_typeInfo hi, asInt, asIntOf, w1, b1, b2, hn, h63, h48, Question.forced, h0, zeroValue, hz, zeroCells_list, hold, run_newRow, grownCap, askRoom]
  · have := hfc w.drew (fun _ _ => rfl)
    cases dx <;> first
      | (rename_i k; exact absurd rfl (hni k))
      | simp [Builtin.append_, ht0, h1, run_underlying hu, run_underlying h2, run_sizeOf hi, run_typeInfo hi, hl, hn, h63, h48, Question.forced, zeroValue, hz, zeroCells_list, hold, this, run_newRow, grownCap, askRoom]

end Go.Sh

/-
  Append: the shadow's side.
-/
namespace Go.Sh
set_option linter.unusedVariables false
variable {P : Program} {ρ : Rho} {h : H} {w : World}
variable {od : Operand → Option Od} {ev : Od → SV} {a : Operand → Value} {X : Ctx} {o : Oper} {s : SOp} {v : SV} {h' : H}

/-- a row of which another may be the longer form: in the same memory, or in new memory. -/
def grown (h : H) (b : Pos) (l : SV) (sz g : Nat) (fam : Pos) (all : SV) (n es : Nat) : H :=
  ⟨h.next.succ, ((killAll b ((h.fams.get fam).getD []) h.t).put (some (.row l sz g true fam)) b).put (some (.row all n es true fam)) h.next, h.fams.put (some [b, h.next]) fam⟩

theorem grown_at (h : H) (b : Pos) (l : SV) (sz g : Nat) (fam : Pos) (all : SV) (n es : Nat) (x : Pos) :
    (grown h b l sz g fam all n es).at_ x = if x = h.next then some (.row all n es true fam) else if x = b then some (.row l sz g true fam) else
      if x ∈ (T.get fam h.fams).getD [] then none else h.at_ x := by
  simp only [grown, H.at_, T.get_put, killAll_get]
  by_cases h1 : x = h.next
  · simp [h1]
  · by_cases h2 : x = b
    · simp [h2]
    · simp [h1, h2]

theorem HR.grow (hr : HR P ρ h w) {b : Pos} {l all : SV} {sz g n es : Nat} {sh : Bool} {fam : Pos} {loc loc' : Loc} {w' : World} (hb : h.at_ b = some (.row l sz g sh fam)) (hρ : ρ b = some loc)
    (hsize : w.heap.size ≤ w'.heap.size) (hkeep : ∀ r, r < w.heap.size → r ≠ loc.rb → w'.heap[r]? = w.heap[r]?) (hrow : RowR ρ l sz g loc w') (hnew : RowR ρ all n es loc' w')
    (hrb : loc'.rb = loc.rb ∨ w.heap.size ≤ loc'.rb) (hlt : loc'.rb < w'.heap.size) (hos : w'.os = w.os) (hout : w'.output = w.output) (htape : w'.tape = w.tape) :
    HR P (upd ρ h.next loc') (grown h b l sz g fam all n es) w' ∧ Ext ρ h w (upd ρ h.next loc') (grown h b l sz g fam all n es) w' := by
  have hat := grown_at h b l sz g fam all n es
  have hn := hr.none_of_next
  have hbn : b ≠ h.next := fun e => by rw [e, hn] at hρ; cases hρ
  have hnx : num (grown h b l sz g fam all n es).next = num h.next + 1 := num_succ _
  have hle : Le ρ (upd ρ h.next loc') := upd_le hn
  have mono : ∀ {x m k lx}, RowR ρ x m k lx w' → RowR (upd ρ h.next loc') x m k lx w' := by
    intro x m k lx hx
    obtain ⟨h1, h2, c, e, fr, h3, h4, h5, h6, h7⟩ := hx
    exact ⟨h1, h2, c, e, fr, h3, h4.mono hle, h5, h6, h7⟩
  -- who else lives, lives in other memory
  have hshare : ∀ x o lx, h.at_ x = some o → ρ x = some lx → x ≠ b → x ∉ (T.get fam h.fams).getD [] → lx.rb ≠ loc.rb := by
    intro x o lx hx hlx hne hnot hrb
    obtain ⟨x1, n1, g1, x2, n2, g2, fm, e1, e2⟩ := hr.excl x b o _ lx loc hx hb hlx hρ hne hrb
    injection e2 with _ _ _ _ e4
    subst e1; subst e4
    obtain ⟨ms, hms, hin⟩ := hr.fam x _ _ _ _ hx
    exact hnot (by rw [hms]; exact hin)
  have hold : ∀ x o, (grown h b l sz g fam all n es).at_ x = some o → x ≠ h.next → x ≠ b → h.at_ x = some o ∧ x ∉ (T.get fam h.fams).getD [] := by
    intro x o hx h1 h2
    rw [hat, if_neg h1, if_neg h2] at hx
    split at hx
    · cases hx
    · rename_i hnot; exact ⟨hx, hnot⟩
  have hbk : ∀ x o lx, (grown h b l sz g fam all n es).at_ x = some o → ρ x = some lx → x ≠ b → lx.rb ≠ loc.rb ∧ lx.rb < w.heap.size ∧ h.at_ x = some o := by
    intro x o lx hx hlx h2
    have h1 : x ≠ h.next := fun e => by rw [e, hn] at hlx; cases hlx
    obtain ⟨k1, k2⟩ := hold x o hx h1 h2
    exact ⟨hshare x o lx k1 hlx h2 k2, hr.lt x lx hlx, k1⟩
  refine ⟨⟨?_, ?_, ?_, ?_, ?_, ?_⟩, ⟨hle, ?_, by omega, hsize, ?_, ?_, ?_, ?_, hos, hout, htape⟩⟩
  · intro x lx e
    unfold upd at e
    split at e
    · rename_i ex; subst ex; omega
    · have := hr.fresh x lx e; omega
  · intro x o e
    rw [hat] at e
    split at e
    · rename_i ex; subst ex; omega
    · split at e
      · rename_i ex; subst ex; have := hr.fresh _ _ hρ; omega
      · split at e
        · cases e
        · have := hr.hfresh x o e; omega
  · intro x lx e
    unfold upd at e
    split at e
    · cases e; exact hlt
    · have := hr.lt x lx e; omega
  · intro x o lx hx hlx
    by_cases h1 : x = h.next
    · subst h1
      rw [hat, if_pos rfl] at hx; cases hx
      rw [upd_same] at hlx; cases hlx
      exact mono hnew
    · rw [upd_other _ h1] at hlx
      by_cases h2 : x = b
      · subst h2
        rw [hat, if_neg h1, if_pos rfl] at hx; cases hx
        rw [hρ] at hlx; cases hlx
        exact mono hrow
      · obtain ⟨k1, k2, k3⟩ := hbk x o lx hx hlx h2
        refine (hr.obj x o lx k3 hlx).keep hle (hkeep _ k2 k1) (fun m lm es' ver hm hat' => ?_)
        have hmb : m ≠ b := fun e => by
          subst e
          rw [hat, if_neg (fun e => hbn e), if_pos rfl] at hat'; cases hat'
        obtain ⟨j1, j2, j3⟩ := hbk m _ lm hat' hm hmb
        exact ⟨j3, hkeep _ j2 j1⟩
  · intro b1 b2 o1 o2 l1 l2 e1 e2 r1 r2 hne hrb12
    have cls : ∀ x o lx, (grown h b l sz g fam all n es).at_ x = some o → upd ρ h.next loc' x = some lx → (x = h.next ∨ x = b) ∧ (∃ y k j, o = .row y k j true fam) ∨
        x ≠ h.next ∧ x ≠ b ∧ ρ x = some lx ∧ h.at_ x = some o ∧ lx.rb ≠ loc.rb ∧ lx.rb < w.heap.size := by
      intro x o lx hx hlx
      by_cases h1 : x = h.next
      · subst h1; rw [hat, if_pos rfl] at hx; cases hx; exact .inl ⟨.inl rfl, _, _, _, rfl⟩
      · by_cases h2 : x = b
        · subst h2; rw [hat, if_neg h1, if_pos rfl] at hx; cases hx; exact .inl ⟨.inr rfl, _, _, _, rfl⟩
        · rw [upd_other _ h1] at hlx
          obtain ⟨k1, k2, k3⟩ := hbk x o lx hx hlx h2
          exact .inr ⟨h1, h2, hlx, k3, k1, k2⟩
    have own : ∀ x lx, (x = h.next ∨ x = b) → upd ρ h.next loc' x = some lx → lx.rb = loc.rb ∨ w.heap.size ≤ lx.rb := by
      intro x lx hx hlx
      rcases hx with rfl | rfl
      · rw [upd_same] at hlx; cases hlx; exact hrb
      · rw [upd_other _ hbn, hρ] at hlx; cases hlx; exact .inl rfl
    rcases cls b1 o1 l1 e1 r1 with ⟨c1, y1, k1, j1, rfl⟩ | ⟨c1, d1, f1, g1, i1, i1'⟩
    · rcases cls b2 o2 l2 e2 r2 with ⟨c2, y2, k2, j2, rfl⟩ | ⟨c2, d2, f2, g2, i2, i2'⟩
      · exact ⟨_, _, _, _, _, _, _, rfl, rfl⟩
      · have := own b1 l1 c1 r1; omega
    · rcases cls b2 o2 l2 e2 r2 with ⟨c2, y2, k2, j2, rfl⟩ | ⟨c2, d2, f2, g2, i2, i2'⟩
      · have := own b2 l2 c2 r2; omega
      · exact hr.excl b1 b2 o1 o2 l1 l2 g1 g2 f1 f2 hne hrb12
  · intro x y k j fm hx
    rw [hat] at hx
    have hfams : ∀ f, T.get f (grown h b l sz g fam all n es).fams = if f = fam then some [b, h.next] else T.get f h.fams := fun f => T.get_put _ _ _ _
    split at hx
    · rename_i e; cases hx; exact ⟨_, by rw [hfams, if_pos rfl], by simp [e]⟩
    · split at hx
      · rename_i e; cases hx; exact ⟨_, by rw [hfams, if_pos rfl], by simp [e]⟩
      · split at hx
        · cases hx
        · rename_i hnot
          obtain ⟨ms, hms, hin⟩ := hr.fam x y k j fm hx
          refine ⟨ms, ?_, hin⟩
          rw [hfams, if_neg]
          · exact hms
          · rintro rfl
            exact hnot (by rw [hms]; exact hin)
  · intro x lx e hx
    unfold upd at e
    split at e
    · rename_i ex; subst ex; exact Nat.le_refl _
    · rw [hx] at e; cases e
  · intro r hr' hnk
    exact hkeep r hr' (fun e => hnk b loc hρ (by rw [hb]; rfl) e.symm)
  · intro x lx e hx
    unfold upd at e
    split at e
    · cases e
      rcases hrb with e2 | e2
      · exact .inr ⟨b, loc, hρ, by rw [hb]; rfl, e2.symm⟩
      · exact .inl e2
    · rw [hx] at e; cases e
  · intro x hx hlt'
    rw [hat, if_neg (fun e => by subst e; omega), if_neg (fun e => by subst e; rw [hρ] at hx; cases hx)]
    split
    · exact .inr rfl
    · exact .inl rfl
  · intro x hlt' hx
    rw [hat, if_neg (fun e => by subst e; omega), if_neg (fun e => by subst e; rw [hb] at hx; cases hx)]
    split
    · rfl
    · exact hx

end Go.Sh

/-
  Append: both sides together.
-/
namespace Go.Sh
set_option linter.unusedVariables false
variable {P : Program} {ρ : Rho} {h : H} {w : World}
variable {od : Operand → Option Od} {ev : Od → SV} {a : Operand → Value} {X : Ctx} {o : Oper} {s : SOp} {v : SV} {h' : H}

theorem seg_before (c : Array Value) (us : List Value) (p sh sz : Nat) (hp : sh + sz ≤ p) (hc : p + us.length ≤ c.size) :
    seg (c.toList.take p ++ us ++ c.toList.drop (p + us.length)).toArray sh sz = seg c sh sz := by
  have hl : (List.take p c.toList).length = p := by simp; omega
  apply List.ext_getElem?
  intro i
  by_cases hi : i < sz
  · rw [seg_get _ _ _ _ hi, seg_get _ _ _ _ hi, List.getElem?_toArray, get_app3, hl, if_pos (by omega), List.getElem?_take, if_pos (by omega)]
    simp
  · rw [List.getElem?_eq_none, List.getElem?_eq_none]
    · simp [seg]; omega
    · simp [seg]; omega

theorem seg_behind (c : Array Value) (us ws : List Value) (p sh : Nat) (hp : sh + ws.length = p) (hc : p + us.length ≤ c.size) (hw : ∀ j v, ws[j]? = some v → c[sh + j]? = some v) :
    seg (c.toList.take p ++ us ++ c.toList.drop (p + us.length)).toArray sh (ws.length + us.length) = ws ++ us := by
  have hl : (List.take p c.toList).length = p := by simp; omega
  apply List.ext_getElem?
  intro i
  by_cases hi : i < ws.length + us.length
  · rw [seg_get _ _ _ _ hi, List.getElem?_toArray, get_app3, hl]
    by_cases h1 : i < ws.length
    · rw [if_pos (by omega), List.getElem?_take, if_pos (by omega), List.getElem?_append_left h1]
      have := hw i ws[i] (by simp [h1])
      simpa [h1] using this
    · rw [if_neg (by omega), if_pos (by omega), List.getElem?_append_right (by omega)]
      congr 1; omega
  · rw [List.getElem?_eq_none, List.getElem?_eq_none]
    · simp; omega
    · simp [seg]; omega

theorem cell_row {c : Array Value} {e : TypeId} {fr : Nat × Nat} {r i : Nat} {v : Value} (hw : w.heap[r]? = some (.cells c e fr)) (h : w.cell? ⟨r, i, none⟩ = some v) : c[i]? = some v := by
  simpa [World.cell?, hw] using h

theorem appGo_sound (hr : HR P ρ h w) {ts : Array TypeId} {t ty e : TypeId} {i : TypeInfo} {zu : Value} (ht0 : ts[0]? = some t) (hu : P.underlying t = some (.slice e)) (hi : P.info? e = some i) (hz : i.zero = some zu) (hzs : zu.cells.size = i.size)
    {x : Value} {n : Nat} {news : List Value} (hx : AppArg P w ts e i x n news) {new : SV} (hnl : LR ρ new news) (hnf : ∀ c ∈ news, c.oneCell' = true) {s : SV} {su : Value} (hs : VR ρ s su)
    (he : appGo i.size i.bytes s n new h = some (.val v h')) :
    ∃ ρ' w' u, (Builtin.append_ ts ty #[su, x]).run P w = .ok u w' ∧ VR ρ' v u ∧ HR P ρ' h' w' ∧ Ext ρ h w ρ' h' w' := by
  have hnlen := hx.len
  have zero : n = 0 → news = [] := fun e => by subst e; exact List.eq_nil_of_length_eq_zero (by simpa using hnlen)
  unfold appGo at he
  split at he
  · -- nil
    cases hn : Nat.beq n 0 with
    | true =>
      rw [hn, cond_true] at he
      obtain ⟨rfl, rfl⟩ := val_inj he
      rw [Nat.beq_eq] at hn; subst hn
      rw [hs.nils_inv]
      exact ⟨ρ, w, _, app_nil0 ht0 hu hi hx, .nils, hr, Ext.refl _ _ _⟩
    | false =>
      rw [hn, cond_false] at he
      cases hc : (Nat.ble (Nat.mul n i.bytes) 1099511627776 && Nat.blt n 1099511627776 && Nat.blt 0 i.size) with
      | false => rw [hc] at he; cases he
      | true =>
        rw [hc, cond_true] at he
        obtain ⟨rfl, rfl⟩ := val_inj he
        simp only [Bool.and_eq_true, Nat.blt_eq] at hc
        obtain ⟨⟨c1, c2⟩, c3⟩ := hc
        have c1 : n * i.bytes ≤ 1099511627776 := Nat.le_of_ble_eq_true c1
        have hn0 : n ≠ 0 := fun e => by rw [beq_true e] at hn; cases hn
        rw [hs.nils_inv]
        have hg := app_grow (w := w) (ty := ty) ht0 hu hi hz hx none 0 0 (by omega) [] (by simp [Builtin.firstCells]) (by simpa using c1) (by omega)
        rw [Nat.zero_add] at hg
        have hge := grownCap_ge w n 0 e
        obtain ⟨k1, k2⟩ := hr.drew.newRowF (n * i.size) i.size (grownCap w n 0 e - n) e (0, 0) (repL zu.cells.toList (grownCap w n 0 e - n)) hnl hnlen hnf (by rw [repL_length]; simp [hzs]) (fun j hj => by simp)
        refine ⟨_, _, _, hg, .slc _ 0 n n _ _ (upd_same _ _) (Nat.le_refl _) (.inr ⟨?_, ?_, ?_⟩), by simpa using k1, (Ext.drew).trans (by simpa using k2) hr.fresh⟩
        · simp only; omega
        · simp only; omega
        · simp
  · -- empty, of unknown room
    cases hn : Nat.beq n 0 with
    | true =>
      rw [hn, cond_true] at he
      obtain ⟨rfl, rfl⟩ := val_inj he
      rw [Nat.beq_eq] at hn
      obtain ⟨ad, c', rfl⟩ := hs.emp_inv
      rw [zero hn] at hx
      subst hn
      exact ⟨ρ, w, _, app_fits ht0 hu hi hx ad 0 c' (by omega) (w' := w) (by simp [storeCells]), .emp _ _, hr, Ext.refl _ _ _⟩
    | false => rw [hn] at he; cases he
  · rename_i b k len cap
    obtain ⟨loc, c', hloc, rfl, hlc, hcap⟩ := hs.slc_inv
    have hcc : cap ≤ c' := by rcases hcap with e | ⟨e, _⟩ <;> omega
    cases hn : Nat.beq n 0 with
    | true =>
      rw [hn, cond_true] at he
      obtain ⟨rfl, rfl⟩ := val_inj he
      rw [Nat.beq_eq] at hn
      rw [zero hn] at hx
      subst hn
      exact ⟨ρ, w, _, app_fits ht0 hu hi hx _ len c' (by omega) (w' := w) (by simp [storeCells]), hs, hr, Ext.refl _ _ _⟩
    | false =>
      rw [hn, cond_false] at he
      have hn0 : n ≠ 0 := fun e => by rw [beq_true e] at hn; cases hn
      by_cases hfit : len + n ≤ cap
      · have : Nat.ble (Nat.add len n) cap = true := ble_true hfit
        rw [this, cond_true] at he
        split at he
        · rename_i h2 hset
          obtain ⟨rfl, rfl⟩ := val_inj he
          obtain ⟨w', k1, k2, k3⟩ := hr.setRange hset hloc hnl hnlen hnf
          refine ⟨ρ, w', _, app_fits ht0 hu hi hx _ len c' (by omega) (w' := w') ?_, .slc _ _ _ _ _ loc hloc hfit hcap, k2, k3⟩
          rw [Addr.add_none, Nat.add_assoc]; exact k1
        · cases he
      · have : Nat.ble (Nat.add len n) cap = false := ble_false hfit
        rw [this, cond_false] at he
        cases hc : (Nat.ble (Nat.mul (Nat.add len n) i.bytes) 1099511627776 && Nat.blt (Nat.add len n) 1099511627776 && Nat.blt 0 i.size) with
        | false => rw [hc] at he; cases he
        | true =>
          rw [hc, cond_true] at he
          simp only [Bool.and_eq_true, Nat.blt_eq] at hc
          obtain ⟨⟨c1, c2⟩, c3⟩ := hc
          have c1 : (len + n) * i.bytes ≤ 1099511627776 := Nat.le_of_ble_eq_true c1
          have c2 : len + n < 1099511627776 := c2
          split at he
          · rename_i l sz g sh fam hb
            split at he
            · cases he
            · rename_i old hold
              obtain ⟨ws, o1, o2, o3, o4⟩ := hr.range hold hloc
              have o2' : ws.length = len * i.size := o2
              have hrow := hr.row hb hloc
              have hfo : (Builtin.firstCells i.size len (.slice (some ⟨loc.rb, loc.sh + k, none⟩) len c')).run P w.drew = .ok ws.toArray w.drew := by
                have := run_cells (P := P) (w := w.drew) (l := loc) (k := k) o2' (fun j v hj => by
                  exact o3 j v hj)
                simpa [Builtin.firstCells] using this
              have hall : LR ρ (old.app new) (ws ++ news) := o1.app hnl
              have halen : (ws ++ news).length = (len + n) * i.size := by rw [List.length_append, o2', hnlen, Nat.add_mul]
              have hallf : ∀ c ∈ ws ++ news, c.oneCell' = true := by
                intro c hc
                rcases List.mem_append.1 hc with hc | hc
                · exact o4 c hc
                · exact hnf c hc
              cases hA : (Nat.beq g 0 || (Nat.beq g i.size && !(Nat.beq (Nat.add k (Nat.mul cap i.size)) sz))) with
              | true =>
                -- the room is known: new memory for sure
                simp only [hA, cond_true] at he
                obtain ⟨rfl, rfl⟩ := val_inj he
                have hcc' : c' = cap := by
                  rcases hcap with e1 | ⟨_, e2, e3⟩
                  · exact e1
                  · exfalso
                    obtain ⟨h1, h2, _⟩ := hrow
                    simp only [Bool.or_eq_true, Bool.and_eq_true, Nat.beq_eq, Bool.not_eq_true'] at hA
                    rcases hA with hA | ⟨hA1, hA2⟩
                    · exact e2 (h2.trans hA)
                    · rw [h2, h1, hA1] at e3
                      have : Nat.beq (Nat.add k (Nat.mul cap i.size)) sz = true := beq_true e3
                      rw [this] at hA2; cases hA2
                subst hcc'
                have hg := app_grow (w := w) (ty := ty) ht0 hu hi hz hx (some ⟨loc.rb, loc.sh + k, none⟩) len c' (by omega) ws hfo c1 c2
                have hge := grownCap_ge w (len + n) c' e
                generalize grownCap w (len + n) c' e = nc at hg hge
                obtain ⟨k1, k2⟩ := hr.drew.newRowF ((len + n) * i.size) i.size (nc - (len + n)) e (0, 0) (repL zu.cells.toList (nc - (len + n))) hall halen hallf (by rw [repL_length]; simp [hzs]) (fun j hj => by simp)
                refine ⟨_, _, _, hg, .slc _ 0 (len + n) (len + n) nc _ (upd_same _ _) (Nat.le_refl _) (.inr ⟨?_, ?_, ?_⟩), k1, (Ext.drew).trans k2 hr.fresh⟩
                · simp only; omega
                · simp only; omega
                · simp
              | false =>
                simp only [hA, cond_false] at he
                cases hB : (Nat.beq g i.size && Nat.beq len cap) with
                | false => rw [hB] at he; cases he
                | true =>
                  rw [hB, cond_true] at he
                  obtain ⟨rfl, rfl⟩ := val_inj he
                  rw [Bool.and_eq_true, Nat.beq_eq, Nat.beq_eq] at hB
                  obtain ⟨rfl, rfl⟩ := hB
                  have hend : k + len * i.size = sz := by
                    simp only [Bool.or_eq_false_iff, Bool.and_eq_false_iff, Bool.not_eq_false'] at hA
                    rcases hA.2 with h1 | h1
                    · rw [beq_true rfl] at h1; cases h1
                    · rw [Nat.beq_eq] at h1; exact h1
                  by_cases hroom : len + n ≤ c'
                  · -- in place
                    obtain ⟨hc', hg0, hg1⟩ : c' = len + loc.ex ∧ loc.g ≠ 0 ∧ k + len * loc.g = loc.sz := by
                      rcases hcap with e1 | e1
                      · omega
                      · exact e1
                    obtain ⟨r1, r2, c, ce, fr, r3, r4, r5, r6, r7⟩ := hrow
                    have hnx : n * i.size ≤ loc.ex * i.size := Nat.mul_le_mul_right _ (by omega)
                    have hsz : loc.sh + k + len * i.size + news.length ≤ c.size := by rw [hnlen]; omega
                    have hst := run_storeCells_nf (P := P) loc.rb (loc.sh + k + len * i.size) ce fr news 0 c w r3 (by omega) hnf (fun j j1 j2 => r7 j (by omega) (by rw [hnlen] at j2; omega))
                    simp only [Nat.add_zero] at hst
                    have happ := app_fits (w := w) (ty := ty) ht0 hu hi hx ⟨loc.rb, loc.sh + k, none⟩ len c' hroom (by rw [Addr.add_none]; exact hst)
                    generalize hC : (List.take (loc.sh + k + len * i.size) c.toList ++ news ++ List.drop (loc.sh + k + len * i.size + news.length) c.toList).toArray = C at hst happ
                    have hCs : C.size = c.size := by rw [← hC]; simp; omega
                    have hlt := hr.lt b loc hloc
                    have hCrow : (w.setRow loc.rb C).heap[loc.rb]? = some (.cells C ce fr) := setRow_heap w _ c C ce fr r3
                    have hseg1 : seg C loc.sh sz = seg c loc.sh sz := by rw [← hC]; exact seg_before c news _ loc.sh sz (by omega) hsz
                    have hseg2 : seg C (loc.sh + k) ((len + n) * i.size) = ws ++ news := by
                      rw [← halen, List.length_append, ← hC]
                      exact seg_behind c news ws _ (loc.sh + k) (by rw [o2']) hsz (fun j v hj => cell_row r3 (o3 j v hj))
                    have hexn : (len + n) * i.size + (loc.ex - n) * i.size = len * i.size + loc.ex * i.size := by
                      rw [← Nat.add_mul, ← Nat.add_mul]; congr 1; omega
                    obtain ⟨k1, k2⟩ := hr.grow (w' := w.setRow loc.rb C) (all := old.app new) (n := (len + n) * i.size) (es := i.size) (loc' := ⟨loc.rb, loc.sh + k, loc.ex - n, (len + n) * i.size, i.size⟩) hb hloc
                      (by simp) (fun r _ hne => setRow_other w _ _ C hne)
                      ⟨r1, r2, C, ce, fr, hCrow, by rw [hseg1]; exact r4, by omega, by rw [hseg1]; exact r6, r7⟩
                      ⟨rfl, rfl, C, ce, fr, hCrow, by rw [hseg2]; exact hall, by simp only; omega, by rw [hseg2]; exact hallf, fun j j1 j2 => r7 j (by simp only at j1; omega) (by simp only at j2; omega)⟩
                      (.inl rfl) (by simpa using hlt) rfl rfl rfl
                    refine ⟨_, _, _, happ, .slc _ 0 (len + n) (len + n) c' _ (upd_same _ _) (Nat.le_refl _) (.inr ⟨?_, ?_, ?_⟩), k1, k2⟩
                    · simp only; omega
                    · simp only; omega
                    · simp
                  · -- new memory
                    have hg := app_grow (w := w) (ty := ty) ht0 hu hi hz hx (some ⟨loc.rb, loc.sh + k, none⟩) len c' (by omega) ws hfo c1 c2
                    have hge := grownCap_ge w (len + n) c' e
                    generalize grownCap w (len + n) c' e = nc at hg hge
                    have hlt := hr.lt b loc hloc
                    have hold' : ∀ r, r < w.heap.size → (w.drew.alloc (.cells ((ws ++ news) ++ repL zu.cells.toList (nc - (len + n))).toArray e)).heap[r]? = w.heap[r]? :=
                      fun r hr' => heap_alloc_old w.drew _ r hr'
                    have hnewb : (w.drew.alloc (.cells ((ws ++ news) ++ repL zu.cells.toList (nc - (len + n))).toArray e)).heap[w.heap.size]? = some (.cells ((ws ++ news) ++ repL zu.cells.toList (nc - (len + n))).toArray e) :=
                      heap_alloc_new w.drew _
                    generalize hW : w.drew.alloc (.cells ((ws ++ news) ++ repL zu.cells.toList (nc - (len + n))).toArray e) = W at hg hold' hnewb
                    have hroomy : 0 + (len + n) * i.size + (nc - (len + n)) * i.size ≤ ((ws ++ news) ++ repL zu.cells.toList (nc - (len + n))).toArray.size := by
                      have e1 : ((ws ++ news) ++ repL zu.cells.toList (nc - (len + n))).toArray.size = (ws ++ news).length + (repL zu.cells.toList (nc - (len + n))).length := by simp [Nat.add_assoc]
                      rw [e1, halen, repL_length]; simp [hzs]
                    have hWs : W.heap.size = w.heap.size + 1 := by rw [← hW]; show (w.heap.push _).size = _; simp
                    obtain ⟨r1, r2, c, ce, fr, r3, r4, r5, r6, r7⟩ := hrow
                    obtain ⟨k1, k2⟩ := hr.grow (w' := W) (all := old.app new) (n := (len + n) * i.size) (es := i.size) (loc' := ⟨w.heap.size, 0, nc - (len + n), (len + n) * i.size, i.size⟩) hb hloc
                      (by omega) (fun r hr' _ => hold' r hr') ⟨r1, r2, c, ce, fr, by rw [hold' _ hlt]; exact r3, r4, r5, r6, r7⟩
                      ⟨rfl, rfl, _, _, _, hnewb, by rw [← halen, seg_all]; exact hall, hroomy, by rw [← halen, seg_all]; exact hallf, fun j _ _ => by simp⟩
                      (.inr (Nat.le_refl _)) (by simp only; omega) (by rw [← hW]; rfl) (by rw [← hW]; rfl) (by rw [← hW]; rfl)
                    refine ⟨_, _, _, hg, .slc _ 0 (len + n) (len + n) nc _ (upd_same _ _) (Nat.le_refl _) (.inr ⟨?_, ?_, ?_⟩), k1, k2⟩
                    · simp only; omega
                    · simp only; omega
                    · simp
          · cases he
  · cases he

theorem types2 {c : Call} {t tx : TypeId} {r : List TypeId} (h : c.argTypes.toList = t :: tx :: r) : c.argTypes[0]? = some t ∧ c.argTypes[1]? = some tx := by
  constructor <;> (rw [← Array.getElem?_toList, h]; rfl)

theorem good_append {c : Call} (ho : o.op = .call c) (hc : c.callee = .builtin .append) (hs : builtinO P od .append c.argTypes.toList c.args.toList = some s) (hev : Evs ρ od ev a) (hr : HR P ρ h w)
    (he : evS s X ev h = some (.val v h')) : Good P ρ h w v h' (execOp a o) := by
  unfold builtinO at hs
  split at hs <;> try contradiction
  rename_i _ t r sl x _ hts has
  obtain ⟨cs, hrun⟩ := run_builtin (P := P) (a := a) ho hc w
  rw [args2 has] at hrun
  split at hs
  · rename_i e sl' x' hu hsl hx
    split at hs
    · rename_i i z tx r' hi hz
      obtain ⟨ht0, ht1⟩ := types2 hts
      cases hb : Nat.beq z.cells.len i.size with
      | false => rw [hb] at hs; cases hs
      | true =>
        rw [hb, cond_true] at hs
        rw [Nat.beq_eq] at hb
        obtain ⟨i', zu, hi', hzu, hv, hrunz, hne⟩ := zeroOf_sound2 (ρ := ρ) (w := w) hz
        rw [hi] at hi'; cases hi'
        obtain ⟨c1, c2⟩ := cells_sound hv hne
        have hzs : zu.cells.size = i.size := by
          have := c1.len; rw [hb] at this; simpa using this.symm
        have vs := hev sl sl' hsl
        have vx := hev x x' hx
        have fin : ∀ n new news, AppArg P w c.argTypes e i (a x) n news → LR ρ new news → (∀ c ∈ news, c.oneCell' = true) → appGo i.size i.bytes (ev sl') n new h = some (.val v h') → Good P ρ h w v h' (execOp a o) := by
          intro n new news hA hnl hnf hgo
          obtain ⟨ρ', w', u, h1, h2, h3, h4⟩ := appGo_sound (ty := o.type) hr ht0 hu hi hzu hzs hA hnl hnf vs hgo
          refine ⟨ρ', w', .value u, u, ?_, rfl, h2, h3, h4⟩
          rw [hrun]
          have h1' : (Builtin.append_ c.argTypes o.type #[a sl, a x]).run P w = .ok u w' := h1
          simp [builtin, h1']
        split at hs
        · rename_i k hk
          cases hs
          simp only [evS] at he
          split at he
          · rename_i k2 n hxe
            rw [hxe] at vx
            cases hq : (Nat.ble (Nat.mul n i.bytes) 1099511627776 && Nat.blt n 1099511627776) with
            | false => rw [hq] at he; cases he
            | true =>
              rw [hq, cond_true] at he
              simp only [Bool.and_eq_true, Nat.blt_eq] at hq
              have q1 : n * i.bytes ≤ 1099511627776 := Nat.le_of_ble_eq_true hq.1
              refine fin n _ (repL zu.cells.toList n) ⟨by rw [repL_length]; simp [hzs], tx, _, ht1, hk, .inl ⟨⟨k, rfl⟩, ⟨k2, vx.int_inv⟩, q1, hq.2, zu, hzu, hzs, rfl⟩⟩ (zerosS_sound c1 n) (fun c hc => c2 c (repL_mem hc)) he
          · cases he
        · rename_i d hd hk
          cases hs
          simp only [evS] at he
          split at he
          · rename_i n new hel
            obtain ⟨f1, ws, f2, f3, f4, f5⟩ := elems_sound hr vx hel
            refine fin n new ws ⟨f4, tx, d, ht1, hk, .inr ⟨fun k e => ?_, f1, fun w' hw' => ?_⟩⟩ f2 f3 he
            · subst e; exact hd k rfl
            · have := f5 w' hw' n (Nat.le_refl _)
              rwa [List.take_of_length_le (by omega)] at this
          · cases he
        · cases hs
    · cases hs
  · cases hs

end Go.Sh

/-
  All operations but calls, deferrals and panics.
-/
namespace Go.Sh
set_option linter.unusedVariables false
variable {P : Program} {ρ : Rho} {h : H} {w : World}
variable {od : Operand → Option Od} {ev : Od → SV} {a : Operand → Value} {X : Ctx} {o : Oper} {s : SOp} {v : SV} {h' : H}

/-- an operation that calls nothing: neither a function nor a stop. -/
def plainOp : SOp → Bool
  | .call _ _ | .callv _ _ | .invoke _ _ _ | .dfr _ _ | .pan _ | .recov => false
  | _ => true

theorem good_convert {sT dT : TypeId} {x : Operand} (ho : o.op = .convert sT dT x) (hs : opO P od (.convert sT dT x) = some s) (hev : Evs ρ od ev a) (hr : HR P ρ h w)
    (he : evS s X ev h = some (.val v h')) : Good P ρ h w v h' (execOp a o) := by
  by_cases hb : ∃ y, s = .toBytes y
  · obtain ⟨y, rfl⟩ := hb
    simp only [opO] at hs
    split at hs
    · cases hs
    · split at hs <;> cases hs
    · cases hs
    · rename_i x' e hx h1 h2
      split at hs
      · rename_i h3
        cases hs
        exact good_toBytes ho hx h1 h2 h3 hev hr he
      · cases hs
    · cases hs
  · exact good_convert_mem ho hs hev hr he (fun y e => hb ⟨y, e⟩)

theorem good_builtin {c : Call} {b : Builtin} (ho : o.op = .call c) (hc : c.callee = .builtin b) (hs : builtinO P od b c.argTypes.toList c.args.toList = some s) (hp : plainOp s = true) (hev : Evs ρ od ev a) (hr : HR P ρ h w)
    (he : evS s X ev h = some (.val v h')) : Good P ρ h w v h' (execOp a o) := by
  have hs0 := hs
  cases b
  case len => exact good_len ho hc hs hev hr he
  case cap => exact good_cap ho hc hs hev hr he
  case append => exact good_append ho hc hs hev hr he
  case copy => exact good_copy ho hc hs hev hr he
  case max => exact good_max ho hc hs hev hr he
  case min => exact good_min ho hc hs hev hr he
  case delete => exact good_delete ho hc hs hev hr he
  case clear => exact good_clear ho hc hs hev hr he
  case recover =>
    unfold builtinO at hs
    split at hs <;> try contradiction
    cases hs; cases hp
  case panic =>
    unfold builtinO at hs
    split at hs <;> try contradiction
    obtain ⟨y, hy, rfl⟩ := map_some hs
    cases hp
  all_goals
    unfold builtinO at hs
    split at hs <;> contradiction

theorem good_op (hac : ∀ v, a (.const v) = v) (hs : opO P od o.op = some s) (hp : plainOp s = true) (hev : Evs ρ od ev a) (hr : HR P ρ h w)
    (he : evS s X ev h = some (.val v h')) : Good P ρ h w v h' (execOp a o) := by
  cases ho : o.op <;> rw [ho] at hs
  case move x => exact good_mv (.inl ho) hs hev hr he
  case assign x => exact good_mv (.inr ho) hs hev hr he
  case pick => exact good_pick ho hs hev hr he
  case alloc => exact good_alloc ho hs hev hr he
  case box => exact good_box ho hs hev hr he
  case build => exact good_build ho hs hev hr he
  case buildSlice => exact good_buildSlice ho hs hev hr he
  case load => exact good_load ho hs hev hr he
  case store => exact good_store ho hs hev hr he
  case nilCheck => exact good_nilc ho hs hev hr he
  case binOp => exact good_binOp ho hs hev hr he
  case unOp => exact good_unOp ho hs hev hr he
  case convert => exact good_convert ho hs hev hr he
  case sliceToArrayPointer => exact good_s2ap ho hs hev hr he
  case makeInterface => exact good_mkif ho hs hev hr he
  case makeFunc => exact good_mkfn ho hs hev hr he
  case makeMap => exact good_makeMap ho hac hs hev hr he
  case makeSlice => exact good_makeSlice ho hs hev hr he
  case slice => exact good_slice ho hs hev hr he
  case fieldAddr => exact good_fadr ho hs hev hr he
  case field => exact good_field ho hs hev hr he
  case indexAddr => exact good_indexAddr ho hs hev hr he
  case index => exact good_index ho hs hev hr he
  case lookup => exact good_lookup ho hs hev hr he
  case mapUpdate => exact good_mapUpdate (.inl ho) hs hev hr he
  case insert => exact good_mapUpdate (.inr ho) hs hev hr he
  case typeAssert => exact good_typeAssert ho hs hev hr he
  case extract => exact good_extract ho hs hev hr he
  case range => exact good_range ho hs hev hr he
  case next it b =>
    cases b
    · exact good_next ho hs hev hr he
    · cases hs
  case entry => exact good_entry ho hs hev hr he
  case call c =>
    simp only [opO] at hs
    split at hs
    · rename_i b hb
      exact good_builtin ho hb hs hp hev hr he
    · obtain ⟨y, hy, rfl⟩ := map_some hs
      cases hp
    · split at hs <;> cases hs
      cases hp
    · split at hs <;> cases hs
      cases hp
  case defer c =>
    simp only [opO] at hs
    split at hs
    · split at hs <;> cases hs
      cases hp
    · cases hs
  case panic x =>
    simp only [opO] at hs
    obtain ⟨y, hy, rfl⟩ := map_some hs
    cases hp
  all_goals (simp only [opO] at hs; cases hs)

end Go.Sh

/-
  Steps of a frame, be it a function's or a round's.
-/
namespace Go.Sh
set_option linter.unusedVariables false

/-- the frame at these temporaries and deferred calls, with so much to do: a round's frame stays one. -/
def fr_ (b : Frame) (a : Act) (todo : List Item) : Frame :=
  { fn := b.fn, tmps := a.tmps, todo, defers := a.defers, mode := .run, kind := b.kind, roundOf := b.roundOf }

theorem eval_fr (b : Frame) (a : Act) (todo : List Item) : (fr_ b a todo).eval = a.eval := by
  funext x; cases x <;> rfl

section moves
variable {P : Program} {b : Frame} {a : Act} {k : List Item} {cs : List Frame} {w : World}

theorem st_skip : step P (lone (fr_ b a (.code .skip :: k)) cs w) = .next (lone (fr_ b a k) cs w) :=
  step_lone_go (by simp [stepG, stepG.exec, fr_])
theorem st_inBlock {id : Nat} : step P (lone (fr_ b a (.inBlock id :: k)) cs w) = .next (lone (fr_ b a k) cs w) :=
  step_lone_go (by simp [stepG, stepG.exec, fr_])
theorem st_seq {x y : Code} : step P (lone (fr_ b a (.code (.seq x y) :: k)) cs w) = .next (lone (fr_ b a (.code x :: .code y :: k)) cs w) :=
  step_lone_go (by simp [stepG, stepG.exec, fr_])
theorem st_cond {c : Operand} {x y : Code} {t : Bool} (h : a.eval c = .bool t) :
    step P (lone (fr_ b a (.code (.cond c x y) :: k)) cs w) = .next (lone (fr_ b a (.code (if t then x else y) :: k)) cs w) :=
  step_lone_go (by
    have := congrFun (eval_fr b a (.code (.cond c x y) :: k)) c
    simp only [fr_] at this
    simp [stepG, stepG.exec, fr_, this, h])
theorem st_block {id : Nat} {c : Code} : step P (lone (fr_ b a (.code (.block id c) :: k)) cs w) = .next (lone (fr_ b a (.code c :: .inBlock id :: k)) cs w) :=
  step_lone_go (by simp [stepG, stepG.exec, fr_])
theorem st_loop {c : Code} : step P (lone (fr_ b a (.code (.loop c) :: k)) cs w) = .next (lone (fr_ b a (.code c :: .inLoop c :: k)) cs w) :=
  step_lone_go (by simp [stepG, stepG.exec, fr_])
theorem st_inLoop {c : Code} : step P (lone (fr_ b a (.inLoop c :: k)) cs w) = .next (lone (fr_ b a (.code c :: .inLoop c :: k)) cs w) :=
  step_lone_go (by simp [stepG, stepG.exec, fr_])
theorem st_exit {id : Nat} {k' : List Item} (h : exitTo id k = some k') : step P (lone (fr_ b a (.code (.exit id) :: k)) cs w) = .next (lone (fr_ b a k') cs w) :=
  step_lone_go (by simp [stepG, stepG.exec, fr_, h])
theorem st_region {id : Nat} {ops : Array Oper} : step P (lone (fr_ b a (.code (.region id ops false) :: k)) cs w) = .next (lone (fr_ b a (.inRegion ops (List.range ops.size) :: k)) cs w) :=
  step_lone_go (by simp [stepG, stepG.exec, fr_])
theorem st_region_draw {id : Nat} {ops : Array Oper} :
    step P (lone (fr_ b a (.code (.region id ops true) :: k)) cs w) =
      .next (lone (fr_ b a (.inRegion ops (Region.schedule (P.follows .mixedOrders) ops (w.tape w.drawn (.order b.fn id))) :: k)) cs { w with drawn := w.drawn + 1 }) :=
  step_lone_go (by simp [stepG, stepG.exec, fr_, choose, Sem.run, Question.forced, Question.cut])
theorem st_region_end {ops : Array Oper} : step P (lone (fr_ b a (.inRegion ops [] :: k)) cs w) = .next (lone (fr_ b a k) cs w) :=
  step_lone_go (by simp [stepG, stepG.exec, fr_])

theorem finish_fr (ops : Array Oper) (i : Nat) (rest : List Nat) (v : Value) :
    (fr_ b a (.inRegion ops (i :: rest) :: k)).finish v = fr_ b (a.put ((ops[i]?).bind (·.dst)) v) (.inRegion ops rest :: k) := by
  cases h : (ops[i]?).bind (·.dst) <;> simp [Frame.finish, fr_, Act.put, h]

theorem st_op_skip {ops : Array Oper} {i : Nat} {rest : List Nat} (h : ((ops[i]?).map (Region.wanted · (yielded ops a.tmps))).getD false = false) :
    step P (lone (fr_ b a (.inRegion ops (i :: rest) :: k)) cs w) = .next (lone (fr_ b (a.put ((ops[i]?).bind (·.dst)) undef) (.inRegion ops rest :: k)) cs w) :=
  step_lone_go (by
    rw [← finish_fr]
    simp only [stepG, fr_, stepG.exec] at h ⊢
    simp [h])

theorem stepG_fr {ops : Array Oper} {i : Nat} {rest : List Nat} {o : Oper} (ho : ops[i]? = some o) (hw : Region.wanted o (yielded ops a.tmps) = true) (hd : b.roundOf = none ∨ ∀ c, o.op ≠ .defer c) :
    stepG P true { frame := fr_ b a (.inRegion ops (i :: rest) :: k), callers := cs, status := .running, dying := none } w =
      stepG.apply P true (fr_ b a (.inRegion ops (i :: rest) :: k)) cs none (execOp a.eval o) w := by
  have he := eval_fr b a (.inRegion ops (i :: rest) :: k)
  simp only [fr_] at he
  simp only [stepG, stepG.exec, fr_, ho, Option.map_some, Option.getD_some, hw, if_true, stepG.oper, Frame.oper?, he]
  rcases hd with hd | hd
  · rw [hd]
  · cases hr : b.roundOf with
    | none => rfl
    | some l =>
      split
      · rename_i h1 h2; exact absurd h2 (hd _)
      · rfl

/-- where a piece of code leads. -/
inductive Out where
  | norm | exit (n : Nat) | ret | pan (v : Value)

/-- what stands there to be done at the end of a piece of code: behind it 'k'. -/
def Arr (P : Program) (m : Machine) (b : Frame) (k : List Item) (cs : List Frame) : Out → Act → World → Prop
  | .norm, a, w => Steps P m (lone (fr_ b a k) cs w)
  | .exit n, a, w => ∃ k1, exitTo n k1 = exitTo n k ∧ Steps P m (lone (fr_ b a (.code (.exit n) :: k1)) cs w)
  | .ret, a, w => ∃ k1, Steps P m (lone (fr_ b a (.code .ret :: k1)) cs w)
  | .pan v, a, w => ∃ k1, Steps P m (lone { fr_ b a k1 with mode := .panicking [{ v, recovered := false }] } cs w)

theorem Arr.of_steps {P : Program} {m m₁ : Machine} {b : Frame} {k : List Item} {cs : List Frame} {e : Out} {a : Act} {w : World} (h : Steps P m m₁) (h' : Arr P m₁ b k cs e a w) : Arr P m b k cs e a w := by
  cases e with
  | norm => exact h.trans h'
  | exit n => obtain ⟨k1, h1, h2⟩ := h'; exact ⟨k1, h1, h.trans h2⟩
  | ret => obtain ⟨k1, h2⟩ := h'; exact ⟨k1, h.trans h2⟩
  | pan v => obtain ⟨k1, h2⟩ := h'; exact ⟨k1, h.trans h2⟩

end moves
end Go.Sh

/-
  Operands of a region's operations: what has been yielded, and what is kept.
-/
namespace Go.Sh
set_option linter.unusedVariables false
variable {P : Program} {ρ : Rho}

theorem lkT_shift (g : Nat) (t : Tmp) : ∀ (l : List (Option Tmp)) (i : Nat), lkT g t l (i + 1) = (lkT g t l i).map fun o => match o with | .loc j => .loc (j + 1) | o => o
  | [], i => by
    simp only [lkT]
    cases Nat.testBit g t <;> rfl
  | some d :: r, i => by
    simp only [lkT, Nat.succ_eq_add_one]
    cases Nat.beq d t
    · simp only [cond_false]; exact lkT_shift g t r (i + 1)
    · rfl
  | none :: r, i => by simp only [lkT, Nat.succ_eq_add_one]; exact lkT_shift g t r (i + 1)

/-- what was yielded by the operations done, the latest first. -/
def DoneR (ρ : Rho) (done : List (Option Tmp)) (loc : List SV) (tmps : Array Value) : Prop :=
  ∀ g t i, lkT g t done 0 = some (.loc i) → VR ρ ((nthL loc i).getD und) (tmps.getD t undef)

theorem DoneR.nil {loc : List SV} {tmps : Array Value} : DoneR ρ [] loc tmps := by
  intro g t i h
  simp only [lkT] at h
  cases hb : Nat.testBit g t <;> simp [hb] at h

theorem DoneR.mono {ρ' : Rho} (hle : Le ρ ρ') {done : List (Option Tmp)} {loc : List SV} {tmps : Array Value} (h : DoneR ρ done loc tmps) : DoneR ρ' done loc tmps :=
  fun g t i e => (h g t i e).mono hle

theorem put_tmps (a : Act) (d : Option Tmp) (v : Value) : (a.put d v).tmps = match d with | some t => a.tmps.setIfInBounds t v | none => a.tmps := by cases d <;> rfl
theorem put_defers (a : Act) (d : Option Tmp) (v : Value) : (a.put d v).defers = a.defers := by cases d <;> rfl

theorem getD_set (tmps : Array Value) (d t : Nat) (v : Value) (hd : d < tmps.size) : (tmps.setIfInBounds d v).getD t undef = if t = d then v else tmps.getD t undef := by
  simp only [Array.getD_eq_getD_getElem?]
  by_cases h : t = d
  · subst h; simp [hd]
  · rw [Array.getElem?_setIfInBounds_ne (Ne.symm h), if_neg h]

theorem nthL_zero {α : Type} (x : α) (l : List α) : nthL (x :: l) 0 = some x := rfl
theorem nthL_succ {α : Type} (x : α) (l : List α) (n : Nat) : nthL (x :: l) (n + 1) = nthL l n := by
  rw [nthL, beq_false (by omega)]; simp

/-- one operation more. -/
theorem DoneR.cons {done : List (Option Tmp)} {loc : List SV} {a : Act} {d : Option Tmp} {v : SV} {u : Value} {nt : Nat} (h : DoneR ρ done loc a.tmps) (hv : VR ρ v u) (hd : dstIn nt d = true) (hn : nt ≤ a.tmps.size) :
    DoneR ρ (d :: done) (v :: loc) (a.put d u).tmps := by
  intro g t i e
  cases d with
  | none =>
    simp only [lkT, Nat.succ_eq_add_one] at e
    rw [lkT_shift] at e
    obtain ⟨o, ho, e2⟩ := map_some e
    cases o with
    | loc j =>
      simp only [Od.loc.injEq] at e2; subst e2
      rw [nthL_succ]; exact h g t j ho
    | _ => cases e2
  | some d =>
    have hdlt : d < a.tmps.size := by
      simp only [dstIn, Nat.blt_eq] at hd; exact Nat.lt_of_lt_of_le hd hn
    rw [put_tmps, getD_set a.tmps d t u hdlt]
    simp only [lkT, Nat.succ_eq_add_one] at e
    by_cases hdt : d = t
    · subst hdt
      rw [beq_true rfl] at e
      simp only [cond_true, Option.some.injEq, Od.loc.injEq] at e; subst e
      rw [if_pos rfl, nthL_zero]; exact hv
    · rw [beq_false hdt] at e
      simp only [cond_false] at e
      rw [lkT_shift] at e
      obtain ⟨o, ho, e2⟩ := map_some e
      cases o with
      | loc j =>
        simp only [Od.loc.injEq] at e2; subst e2
        rw [nthL_succ, if_neg (fun e => hdt e.symm)]; exact h g t j ho
      | _ => cases e2

theorem TR.set {nt g : Nat} {tm : T SV} {a : Act} {d : Option Tmp} {v : SV} {u : Value} (h : TR ρ nt g tm a.tmps) (hv : VR ρ v u) (hd : dstIn nt d = true) :
    TR ρ nt g (setT tm (dstO g d) v) (a.put d u).tmps := by
  cases d with
  | none => exact h
  | some d =>
    have hdlt : d < a.tmps.size := by
      have := h.size
      simp only [dstIn, Nat.blt_eq] at hd; exact Nat.lt_of_lt_of_le hd this
    refine ⟨by rw [put_tmps]; simp; exact h.size, h.small, fun t ht => ?_⟩
    rw [put_tmps, getD_set a.tmps d t u hdlt]
    by_cases hdt : t = d
    · subst hdt
      simp only [dstO, ht, cond_true, setT, T.get_put, if_true, Option.getD_some]
      exact hv
    · rw [if_neg hdt]
      cases hb : Nat.testBit g d with
      | false => simp only [dstO, hb, cond_false, setT]; exact h.at_ t ht
      | true =>
        simp only [dstO, hb, cond_true, setT, T.get_put]
        rw [if_neg (fun e => hdt (ofNat_inj e))]
        exact h.at_ t ht

theorem lkT_tmp {g : Nat} {t : Tmp} {p : Pos} : ∀ {l : List (Option Tmp)} {i : Nat}, lkT g t l i = some (.tmp p) → p = Pos.ofNat t ∧ Nat.testBit g t = true
  | [], i, h => by
    simp only [lkT] at h
    cases hb : Nat.testBit g t with
    | false => rw [hb] at h; cases h
    | true => rw [hb] at h; cases h; exact ⟨rfl, rfl⟩
  | some d :: r, i, h => by
    simp only [lkT] at h
    cases hb : Nat.beq d t with
    | false => rw [hb] at h; exact lkT_tmp h
    | true => rw [hb] at h; cases h
  | none :: r, i, h => by simp only [lkT] at h; exact lkT_tmp h

theorem lkT_cst {g : Nat} {t : Tmp} {v : SV} : ∀ {l : List (Option Tmp)} {i : Nat}, lkT g t l i ≠ some (.cst v)
  | [], i => by
    simp only [lkT]
    cases Nat.testBit g t <;> simp
  | some d :: r, i => by
    simp only [lkT]
    cases Nat.beq d t
    · exact lkT_cst
    · simp
  | none :: r, i => by simp only [lkT]; exact lkT_cst

theorem evs_region {nt g : Nat} {tm : T SV} {a : Act} {done : List (Option Tmp)} {loc : List SV} (hd : DoneR ρ done loc a.tmps) (ht : TR ρ nt g tm a.tmps) :
    Evs ρ (odO (fun t => lkT g t done 0)) (evOd loc tm) a.eval := by
  intro x y h
  cases x with
  | tmp t =>
    simp only [odO] at h
    cases y with
    | loc i => exact hd g t i h
    | tmp p =>
      obtain ⟨rfl, hb⟩ := lkT_tmp h
      exact ht.at_ t hb
    | cst v => exact absurd h lkT_cst
  | const v =>
    simp only [odO] at h
    split at h
    · rename_i z hz
      cases h
      exact ofVal_sound _ _ _ hz
    · cases h
  | global gl => cases h
  | func f =>
    simp only [odO] at h
    cases h
    exact .fn _ _ _ _ _ _ (.same _ (by simp)) .nl .nl

end Go.Sh

/-
  Guards.
-/
namespace Go.Sh
set_option linter.unusedVariables false
variable {P : Program} {ρ : Rho}

theorem VR.bool_iff {v : SV} {u : Value} (h : VR ρ v u) (b : Bool) : v = .bool b ↔ u = .bool b := by
  cases h <;> simp

theorem yielded_eq (ops : Array Oper) (tmps : Array Value) (j d : Nat) (hj : (ops[j]?).bind (·.dst) = some d) (b : Bool) : yielded ops tmps j = some b ↔ tmps.getD d undef = .bool b := by
  unfold yielded
  rw [hj, Option.bind_some, Array.getD_eq_getD_getElem?]
  cases h : tmps[d]? with
  | none => simp [undef]
  | some v => cases v <;> simp

theorem wanted_eq {all : List Oper} {ops : Array Oper} (ho : ops.toList = all) {done : List (Option Tmp)} {loc : List SV} {tmps : Array Value} (hd : DoneR ρ done loc tmps) {o : Oper} {k : Nat} {b : Bool} (hg : guardO all done o = some (k, b)) :
    wanted k b loc = Region.wanted o (yielded ops tmps) := by
  unfold guardO at hg
  cases hgd : o.guard with
  | none =>
    rw [hgd] at hg
    cases hg
    simp [wanted, Region.wanted, hgd]
  | some jb =>
    obtain ⟨j, want⟩ := jb
    rw [hgd] at hg
    simp only at hg
    split at hg
    · rename_i q hq
      split at hg
      · rename_i d hqd
        split at hg
        · rename_i i hi
          cases hg
          have hv := hd 0 d i hi
          have hj : (ops[j]?).bind (·.dst) = some d := by
            rw [nthL_eq, ← ho] at hq
            have hq' : ops[j]? = some q := by simpa using hq
            rw [hq', Option.bind_some, hqd]
          have hw : Region.wanted o (yielded ops tmps) = (yielded ops tmps j == some b) := by simp [Region.wanted, hgd]
          rw [hw]
          have key : ∀ c, (nthL loc i).getD und = .bool c ↔ yielded ops tmps j = some c := fun c => by
            rw [yielded_eq ops tmps j d hj c]; exact hv.bool_iff c
          simp only [wanted, Nat.succ_eq_add_one]
          rw [beq_false (by omega), cond_false]
          show (match nthL loc (i + 1 - 1) with | some (.bool b') => (match b', b with | true, true => true | false, false => true | _, _ => false) | _ => false) = _
          rw [Nat.add_sub_cancel]
          cases hn : nthL loc i with
          | none =>
            rw [hn] at key
            cases hy : yielded ops tmps j with
            | none => rfl
            | some c => have := (key c).2 hy; cases this
          | some v =>
            rw [hn] at key
            simp only [Option.getD_some] at key
            cases hy : yielded ops tmps j with
            | none =>
              have hnb : ∀ c, v ≠ .bool c := fun c e => by have := (key c).1 e; rw [hy] at this; cases this
              cases v <;> first | rfl | exact absurd rfl (hnb _)
            | some c =>
              have := (key c).2 hy; subst this
              cases c <;> cases b <;> rfl
        · cases hg
      · cases hg
    · cases hg

end Go.Sh

/-
  One operation of a region, at the machine.
-/
namespace Go.Sh
set_option linter.unusedVariables false
variable {P : Program} {ρ : Rho} {h : H} {w : World}

theorem not_defer {a : Operand → Value} {o : Oper} {nx : Next} {w' : World} {u : Value} (hr : (execOp a o).run P w = .ok nx w') (hn : nextVal nx = some u) : ∀ c, o.op ≠ .defer c := by
  intro c ho
  simp only [execOp, ho, Sem.run_bind] at hr
  cases hs : (resolve a c o.type).run P w with
  | ok d w1 =>
    rw [hs] at hr
    simp only [Result.andThen_ok, Sem.run_pure, Result.ok.injEq] at hr
    rw [← hr.1] at hn; cases hn
  | halt x w1 => rw [hs] at hr; cases hr

theorem st_value {b : Frame} {a : Act} {k : List Item} {cs : List Frame} {ops : Array Oper} {i : Nat} {rest : List Nat} {o : Oper} (ho : ops[i]? = some o) (hw : Region.wanted o (yielded ops a.tmps) = true) {nx : Next} {w' : World} {u : Value}
    (hr : (execOp a.eval o).run P w = .ok nx w') (hn : nextVal nx = some u) :
    step P (lone (fr_ b a (.inRegion ops (i :: rest) :: k)) cs w) = .next (lone (fr_ b (a.put o.dst u) (.inRegion ops rest :: k)) cs w') := by
  have hg := stepG_fr (P := P) (b := b) (k := k) (cs := cs) (w := w) (rest := rest) ho hw (.inr (not_defer hr hn))
  have hfin : ∀ v, (fr_ b a (.inRegion ops (i :: rest) :: k)).finish v = fr_ b (a.put o.dst v) (.inRegion ops rest :: k) := by
    intro v; rw [finish_fr, ho]; rfl
  refine step_lone_go ?_
  rw [hg, ← hfin]
  cases nx <;> simp [nextVal] at hn
  · subst hn; simp [stepG.apply, hr]
  · subst hn; simp [stepG.apply, hr]

/-- a plain operation: one step. -/
theorem st_good {b : Frame} {a : Act} {k : List Item} {cs : List Frame} {ops : Array Oper} {i : Nat} {rest : List Nat} {o : Oper} (ho : ops[i]? = some o) (hw : Region.wanted o (yielded ops a.tmps) = true) {v : SV} {h' : H}
    (hg : Good P ρ h w v h' (execOp a.eval o)) :
    ∃ ρ' w' u, VR ρ' v u ∧ HR P ρ' h' w' ∧ Ext ρ h w ρ' h' w' ∧ step P (lone (fr_ b a (.inRegion ops (i :: rest) :: k)) cs w) = .next (lone (fr_ b (a.put o.dst u) (.inRegion ops rest :: k)) cs w') := by
  obtain ⟨ρ', w', nx, u, hr, hn, hv, hh, hx⟩ := hg
  exact ⟨ρ', w', u, hv, hh, hx, st_value ho hw hr hn⟩

/-- an operation that panics: one step. -/
theorem st_panic {b : Frame} {a : Act} {k : List Item} {cs : List Frame} {ops : Array Oper} {i : Nat} {rest : List Nat} {o : Oper} (ho : ops[i]? = some o) (hw : Region.wanted o (yielded ops a.tmps) = true) (hd : b.roundOf = none ∨ ∀ c, o.op ≠ .defer c) {w' : World} {u : Value}
    (hr : (execOp a.eval o).run P w = .halt (.panic u) w') :
    step P (lone (fr_ b a (.inRegion ops (i :: rest) :: k)) cs w) = .next (lone { fr_ b a (.inRegion ops (i :: rest) :: k) with mode := .panicking [{ v := u, recovered := false }] } cs w') := by
  have hg := stepG_fr (P := P) (b := b) (k := k) (cs := cs) (w := w) (rest := rest) ho hw hd
  refine step_lone_go ?_
  rw [hg]
  simp [stepG.apply, hr, Frame.raise]; rfl

/-- an operation that calls: one step to the function's frame. -/
theorem st_enter {b : Frame} {a : Act} {k : List Item} {cs : List Frame} {ops : Array Oper} {i : Nat} {rest : List Nat} {o : Oper} (ho : ops[i]? = some o) (hw : Region.wanted o (yielded ops a.tmps) = true) (hd : b.roundOf = none ∨ ∀ c, o.op ≠ .defer c) {w' : World} {f : FuncId} {args : Array Value}
    (hr : (execOp a.eval o).run P w = .ok (.enter f args) w') :
    step P (lone (fr_ b a (.inRegion ops (i :: rest) :: k)) cs w) = .next (lone (Frame.enter P f args .normal) (fr_ b a (.inRegion ops (i :: rest) :: k) :: cs) w') := by
  have hg := stepG_fr (P := P) (b := b) (k := k) (cs := cs) (w := w) (rest := rest) ho hw hd
  refine step_lone_go ?_
  rw [hg]
  simp [stepG.apply, hr, fr_]

/-- an operation that yields: one step to the round's frame. -/
theorem st_round {b : Frame} {a : Act} {k : List Item} {cs : List Frame} {ops : Array Oper} {i : Nat} {rest : List Nat} {o : Oper} (ho : ops[i]? = some o) (hw : Region.wanted o (yielded ops a.tmps) = true) (hd : b.roundOf = none ∨ ∀ c, o.op ≠ .defer c) {w' : World} {l : Nat} {f : FuncId} {tmps : Array Value} {as bd : Code}
    (hr : (execOp a.eval o).run P w = .ok (.round l f tmps as bd) w') :
    step P (lone (fr_ b a (.inRegion ops (i :: rest) :: k)) cs w) = .next (lone (Frame.round l f tmps as bd .normal) (fr_ b a (.inRegion ops (i :: rest) :: k) :: cs) w') := by
  have hg := stepG_fr (P := P) (b := b) (k := k) (cs := cs) (w := w) (rest := rest) ho hw hd
  refine step_lone_go ?_
  rw [hg]
  simp [stepG.apply, hr, fr_]

/-- a deferral, in a function's frame. -/
theorem st_defer {b : Frame} {a : Act} {k : List Item} {cs : List Frame} {ops : Array Oper} {i : Nat} {rest : List Nat} {o : Oper} (ho : ops[i]? = some o) (hw : Region.wanted o (yielded ops a.tmps) = true) (hd : b.roundOf = none) {w' : World} {d : Deferred}
    (hr : (execOp a.eval o).run P w = .ok (.defer d) w') :
    step P (lone (fr_ b a (.inRegion ops (i :: rest) :: k)) cs w) = .next (lone (fr_ b ({ a with defers := d :: a.defers }.put o.dst undef) (.inRegion ops rest :: k)) cs w') := by
  have hg := stepG_fr (P := P) (b := b) (k := k) (cs := cs) (w := w) (rest := rest) ho hw (.inl hd)
  refine step_lone_go ?_
  have : ({ fr_ b a (.inRegion ops (i :: rest) :: k) with defers := d :: a.defers } : Frame).finish undef = fr_ b ({ a with defers := d :: a.defers }.put o.dst undef) (.inRegion ops rest :: k) := by
    have := finish_fr (b := b) (a := { a with defers := d :: a.defers }) (k := k) ops i rest undef
    rw [ho] at this; exact this
  rw [hg]; simp only [stepG.apply, Sem.runT_eq, hr, GStep.bare_after]
  exact congrArg (fun fr => GStep.go { frame := fr, callers := cs, status := .running, dying := none } w') this

end Go.Sh

/-
  What a call comes to.
-/
namespace Go.Sh
set_option linter.unusedVariables false
variable {P : Program} {ρ : Rho} {h : H} {w : World} {a : Operand → Value} {o : Oper}

theorem run_call_value {c : Call} {x : Operand} (ho : o.op = .call c) (hc : c.callee = .value x) {f : FuncId} {first captured : Array Value} (hx : a x = .func (.func f) first captured) :
    (execOp a o).run P w = (callFunc f (first ++ c.args.map a ++ captured)).run P w := by
  simp [execOp, ho, resolve, hc, hx, Deferred.ofValue, invoke]

theorem run_call_yield {c : Call} {x : Operand} (ho : o.op = .call c) (hc : c.callee = .value x) {l : Nat} {captured : Array Value} (hx : a x = .func (.yield l) #[] captured) :
    (execOp a o).run P w = (Instr.yield l (c.args.map a)).run P w := by
  simp [execOp, ho, resolve, hc, hx, Deferred.ofValue, invoke]

theorem run_call_invoke {c : Call} {r : Operand} {name : String} (ho : o.op = .call c) (hc : c.callee = .invoke r name) :
    (execOp a o).run P w = (callMethod (a r) name (c.args.map a)).run P w := by
  have h0 : (#[a r] ++ Array.map a c.args)[0]? = some (a r) := by simp [Array.getElem?_append]
  have h1 : (Array.map a c.args).extract 0 c.args.size = Array.map a c.args := by
    apply Array.ext
    · simp
    · intro i h1 h2; simp
  simp [execOp, ho, resolve, hc, invoke]
  rw [h0, h1]

/-- what a method gets for a receiver. -/
def recvS (rc : Option (Nat × Bool)) (h : H) (v : SV) : Option SV :=
  match rc with
  | none => some v
  | some (n, ag) => loadS n ag h v

theorem method_sound (hr : HR P ρ h w) {t : TypeId} {name : String} {f : FuncId} {rc : Option (Nat × Bool)} (hm : methO P t name = some (f, rc)) {v : SV} {u : Value} (hv : VR ρ v u) {x : SV}
    (hx : recvS rc h v = some x) (fuel : Nat) :
    (∀ ms, P.underlying t ≠ some (.interface ms)) ∧ ∃ y, (method (fuel + 1) t u name).run P w = .ok (f, y) w ∧ VR ρ x y := by
  unfold methO at hm
  split at hm
  · rename_i i hi
    split at hm
    · rename_i m hmm
      have hmf : i.methods.find? (fun m => m.name == name) = some m := by rw [← Array.find?_toList]; exact hmm
      split at hm
      · rename_i f' p hpath hfunc
        have hpe : m.path.toList = [] := hpath
        have hpe2 : m.path = #[] := by rw [← Array.toArray_toList (xs := m.path), hpe]
        split at hm
        · cases hm
        · rename_i e hu
          cases hm
          simp only [recvS, Option.some.injEq] at hx; subst hx
          refine ⟨(fun ms e => by rw [hu] at e; cases e), u, ?_, hv⟩
          simp [method, run_typeInfo hi, hmf, hpe, follow, hfunc, receiverAt, run_underlying hu, Place.get]
        · rename_i e hu
          split at hm
          · rename_i r hsz
            cases hm
            obtain ⟨n, ag⟩ := r
            obtain ⟨ad, y, hua, h1, h2⟩ := loadS_sound hr hsz hv hx
            refine ⟨(fun ms e => by rw [hu] at e; cases e), y, ?_, h2⟩
            subst hua
            have hss : ∀ nm, (Builtin.ssaWrapNilChk_ #[t] t #[.pointer (some ad), strVal "", strVal nm]).run P w = .ok (.pointer (some ad)) w := fun nm => rfl
            simp [method, run_typeInfo hi, hmf, hpe2, follow, hfunc, receiverAt, run_underlying hu, Place.get, hss, asAddr, h1]
          · cases hm
        · rename_i d hu hni hnp
          cases hm
          simp only [recvS, Option.some.injEq] at hx; subst hx
          refine ⟨?_, u, ?_, hv⟩
          · intro ms e
            rw [hnp] at e; cases e; exact hu ms rfl
          · cases d <;> first
              | exact absurd rfl (hni _)
              | simp [method, run_typeInfo hi, hmf, hpe, follow, hfunc, receiverAt, run_underlying hnp, Place.get]
        · cases hm
      · cases hm
    · cases hm
  · cases hm

end Go.Sh

/-
  Calls: what it is for a context to be sound; function values, methods, rounds called.
-/
namespace Go.Sh
set_option linter.unusedVariables false
variable {P : Program} {ρ : Rho} {h : H} {w : World}

/-- how the shadow's result of a call stands to what the model's ended with. -/
def EndR (P : Program) (ρ : Rho) (h : H) (w : World) (r : CR) (e : Ending) (w' : World) : Prop :=
  match r with
  | .ret v h' => ∃ ρ' u, e = .returned u ∧ VR ρ' v u ∧ HR P ρ' h' w' ∧ Ext ρ h w ρ' h' w'
  | .pan v h' => ∃ ρ' u, e = .panicked [{ v := u, recovered := false }] ∧ VR ρ' v u ∧ HR P ρ' h' w' ∧ Ext ρ h w ρ' h' w'

/-- the frame, on top of any other ones, comes to the result. -/
def Runs (P : Program) (ρ : Rho) (h : H) (w : World) (F : Frame) (r : CR) : Prop :=
  ∀ (c : Frame) (cs : List Frame),
    match r with
    | .ret v h' => ∃ ρ' w' u, VR ρ' v u ∧ HR P ρ' h' w' ∧ Ext ρ h w ρ' h' w' ∧ Steps P (lone F (c :: cs) w) (lone (c.finish u) cs w')
    | .pan v h' => ∃ ρ' w' u, VR ρ' v u ∧ HR P ρ' h' w' ∧ Ext ρ h w ρ' h' w' ∧ Steps P (lone F (c :: cs) w) (lone (c.raise [{ v := u, recovered := false }]) cs w')

theorem Runs.of_calls {f : FuncId} {us : Array Value} {r : CR} (hc : Calls P f us w (EndR P ρ h w r)) : Runs P ρ h w (Frame.enter P f us .normal) r := by
  intro c cs
  obtain ⟨e, w', fr, hR, hcomes, hfn, hleave⟩ := hc (c :: cs)
  cases r with
  | ret v h' =>
    obtain ⟨ρ', u, rfl, hv, hh, hx⟩ := hR
    exact ⟨ρ', w', u, hv, hh, hx, Steps.trans hcomes (.one (step_leave_returned hleave))⟩
  | pan v h' =>
    obtain ⟨ρ', u, rfl, hv, hh, hx⟩ := hR
    exact ⟨ρ', w', u, hv, hh, hx, Steps.trans hcomes (.one (step_leave_panicked hleave))⟩

structure SoundX (P : Program) (X : Ctx) : Prop where
  call : ∀ {ρ : Rho} {h : H} {w : World} {f : FuncId} {args : List SV} {r : CR} {us : Array Value}, X.call f args h = some r → HR P ρ h w → VRs ρ args us.toList →
    (callFunc f us).run P w = .ok (.enter f us) w ∧ Calls P f us w (EndR P ρ h w r)
  round : ∀ {ρ : Rho} {h : H} {w : World} {p : Pos} {args : List SV} {v : SV} {h' : H} {loc : Loc} {us : Array Value}, X.round p args h = some (v, h') → HR P ρ h w → ρ p = some loc → VRs ρ args us.toList →
    ∃ fn tmps as bd, (Instr.yield loc.rb us).run P w = .ok (.round loc.rb fn tmps as bd) w ∧ Runs P ρ h w (Frame.round loc.rb fn tmps as bd .normal) (.ret v h')
  meth : ∀ {t : TypeId} {name : String} {r : FuncId × Option (Nat × Bool)}, X.meth t name = some r → methO P t name = some r

def crOR : CR → OR
  | .ret v h => .val v h
  | .pan v h => .pan v h

/-- it leads into a frame that comes to the result. -/
def Goes (P : Program) (ρ : Rho) (h : H) (w : World) (sem : Sem Next) (r : CR) : Prop :=
  ∃ nx F, sem.run P w = .ok nx w ∧ ((∃ f us, nx = .enter f us ∧ F = Frame.enter P f us .normal) ∨ (∃ l f t as bd, nx = .round l f t as bd ∧ F = Frame.round l f t as bd .normal)) ∧ Runs P ρ h w F r

theorem Goes.of_call {X : Ctx} (hX : SoundX P X) {sem : Sem Next} {f : FuncId} {args : List SV} {us : Array Value} {r : CR} (hc : X.call f args h = some r) (hr : HR P ρ h w) (hu : VRs ρ args us.toList)
    (hs : sem.run P w = (callFunc f us).run P w) : Goes P ρ h w sem r := by
  obtain ⟨h1, h2⟩ := hX.call hc hr hu
  exact ⟨_, _, hs.trans h1, .inl ⟨f, us, rfl, rfl⟩, .of_calls h2⟩

theorem callV_inv {X : Ctx} {f : FuncId} {args : List SV} {o : OR} (hc : callV X f args h = some o) : ∃ r, X.call f args h = some r ∧ o = crOR r := by
  unfold callV at hc
  split at hc
  · rename_i v h' e; cases hc; exact ⟨_, e, rfl⟩
  · rename_i v h' e; cases hc; exact ⟨_, e, rfl⟩
  · cases hc

theorem methO_underlying {t : TypeId} {name : String} {r : FuncId × Option (Nat × Bool)} (hm : methO P t name = some r) : ∃ d, P.underlying t = some d ∧ ∀ ms, d ≠ .interface ms := by
  unfold methO at hm
  split at hm
  · split at hm
    · split at hm
      · split at hm
        · cases hm
        · rename_i hu _; exact ⟨_, hu, by simp⟩
        · rename_i hu _; exact ⟨_, hu, by simp⟩
        · rename_i d hni hnp hu _
          exact ⟨_, hu, fun ms e => by subst e; exact hni ms rfl⟩
        · cases hm
      · cases hm
    · cases hm
  · cases hm

theorem VRs.toArray {xs : List SV} {us : List Value} (h : VRs ρ xs us) : VRs ρ xs (us.toArray).toList := by simpa using h

theorem meth_run {X : Ctx} (hX : SoundX P X) (hr : HR P ρ h w) {t : TypeId} {name : String} {f : FuncId} {rc : Option (Nat × Bool)} (hm : X.meth t name = some (f, rc)) {v x : SV} {u : Value} (hv : VR ρ v u)
    (hx : recvS rc h v = some x) (rest : Array Value) :
    ∃ y, VR ρ x y ∧ (callMethod (.iface t u) name rest).run P w = (callFunc f (#[y] ++ rest)).run P w := by
  obtain ⟨_, y, h1, h2⟩ := method_sound hr (hX.meth hm) hv hx (P.types.size + (Made.depth - 1))
  refine ⟨y, h2, ?_⟩
  have e : P.types.size + (Made.depth - 1) + 1 = P.types.size + Made.depth := rfl
  rw [e] at h1
  simp [callMethod, h1]

theorem invokeS_sound {X : Ctx} (hX : SoundX P X) (hr : HR P ρ h w) {rv : SV} {ru : Value} {name : String} {args : List SV} {us : Array Value} {o : OR} (hc : invokeS X rv name args h = some o) (hv : VR ρ rv ru) (hu : VRs ρ args us.toList) :
    ∃ r, o = crOR r ∧ Goes P ρ h w (callMethod ru name us) r := by
  unfold invokeS at hc
  split at hc
  · rename_i t v
    have key : ∀ f rc x, X.meth t name = some (f, rc) → recvS rc h v = some x → callV X f (x :: args) h = some o → ∃ r, o = crOR r ∧ Goes P ρ h w (callMethod ru name us) r := by
      intro f rc x hm hx hcv
      cases hv with
      | ifc _ _ u hu' =>
        obtain ⟨y, h2, h1⟩ := meth_run hX hr hm hu' hx us
        obtain ⟨r, e1, e2⟩ := callV_inv hcv
        refine ⟨r, e2, Goes.of_call hX e1 hr (us := #[y] ++ us) (by simpa using VRs.cons h2 hu) h1⟩
    split at hc
    · rename_i f hm
      exact key f none v hm rfl hc
    · rename_i f n ag hm
      split at hc
      · rename_i x hx
        exact key f (some (n, ag)) x hm hx hc
      · cases hc
    · cases hc
  · cases hc

theorem callF_sound {X : Ctx} (hX : SoundX P X) (hr : HR P ρ h w) {fv : SV} {fu : Value} {args : List SV} {us : Array Value} {o : OR} (hc : callF X fv args h = some o) (hv : VR ρ fv fu) (hu : VRs ρ args us.toList) :
    ∃ r, o = crOR r ∧ Goes P ρ h w (do let d ← Deferred.ofValue fu us; invoke d.target d.args) r := by
  unfold callF at hc
  split at hc
  · rename_i f first captured
    split at hc
    · rename_i xa xb ha hb
      obtain ⟨r, e1, e2⟩ := callV_inv hc
      cases hv with
      | fn _ f' _ _ as cs hf hla hlc =>
        cases hf with
        | same _ _ =>
          refine ⟨r, e2, Goes.of_call hX e1 hr (us := as ++ us ++ cs) ?_ ?_⟩
          · have h1 := toListS_sound hla ha
            have h2 := toListS_sound hlc hb
            simpa using h1.append (hu.append h2)
          · simp [Deferred.ofValue, invoke]
    · cases hc
  · rename_i l
    split at hc
    · rename_i v h' hrd
      cases hc
      cases hv with
      | fn _ f' _ _ as cs hf hla hlc =>
        have has : as = #[] := by cases as with | mk l => cases hla; rfl
        have hcs : cs = #[] := by cases cs with | mk l => cases hlc; rfl
        subst has; subst hcs
        generalize hfl : Fn.yield l = ff at hf
        cases hf with
        | same f hne => exact absurd hfl.symm (hne l)
        | yield p loc hp =>
          injection hfl with hfl
          have hpp : Pos.ofNat l = p := num_inj (by rw [num_ofNat]; exact hfl)
          rw [hpp] at hrd
          obtain ⟨fn, tmps, as', bd, h1, h2⟩ := hX.round hrd hr hp hu
          refine ⟨.ret v h', rfl, _, _, ?_, .inr ⟨_, _, _, _, _, rfl, rfl⟩, h2⟩
          simp [Deferred.ofValue, invoke, h1]
    · cases hc
  · rename_i t name
    cases hv with
    | fn _ f' _ _ as cs hf hla hlc =>
      have has : as = #[] := by cases as with | mk l => cases hla; rfl
      subst has
      cases hf with
      | same _ _ =>
        split at hc
        · rename_i r0 args'
          cases us with
          | mk us =>
            cases hu with
            | cons hv0 hu' =>
              rename_i u0 us'
              have key : ∀ f rc x, X.meth t name = some (f, rc) → recvS rc h r0 = some x → callV X f (x :: args') h = some o →
                  ∃ r, o = crOR r ∧ Goes P ρ h w (do let d ← Deferred.ofValue (.func (.methodOf t name) #[] cs) ⟨u0 :: us'⟩; invoke d.target d.args) r := by
                intro f rc x hm hx hcv
                obtain ⟨y, h2, h1⟩ := meth_run hX hr hm hv0 hx us'.toArray
                obtain ⟨r, e1, e2⟩ := callV_inv hcv
                obtain ⟨d, hd, hni⟩ := methO_underlying (hX.meth hm)
                refine ⟨r, e2, Goes.of_call hX e1 hr (us := #[y] ++ us'.toArray) (by simpa using VRs.cons h2 hu') ?_⟩
                rw [← h1]
                have hex : (⟨u0 :: us'⟩ : Array Value).extract 1 (us'.length + 1) = us'.toArray := by simp
                simp only [Deferred.ofValue, invoke]
                simp only [Sem.run_bind, Sem.run_pure, Result.andThen_ok]
                simp [run_underlying hd, hex]
              split at hc
              · rename_i f hm
                exact key f none r0 hm rfl hc
              · rename_i f n ag hm
                split at hc
                · rename_i x hx
                  exact key f (some (n, ag)) x hm hx hc
                · cases hc
              · cases hc
        · cases hc
  · cases hc

end Go.Sh

/-
  Operations that call, panic, defer, recover: what they come to in the model.
-/
namespace Go.Sh
set_option linter.unusedVariables false
variable {P : Program} {ρ : Rho} {h : H} {w : World}
variable {od : Operand → Option Od} {ev : Od → SV} {a : Operand → Value} {X : Ctx} {o : Oper} {s : SOp}

inductive DR (ρ : Rho) : DefO → Deferred → Prop
  | fn (f : FuncId) (args : List SV) (as cs : Array Value) (h : VRs ρ args (as.toList ++ cs.toList)) : DR ρ (.fn f args) { target := .fn (.func f) cs, args := as }
  | mark (r : Pos) (l : Loc) (h : ρ r = some l) : DR ρ (.mark r) { target := .collected l.rb, args := #[] }

theorem DR.mono {ρ' : Rho} (hle : Le ρ ρ') {d : DefO} {e : Deferred} (h : DR ρ d e) : DR ρ' d e := by
  cases h with
  | fn f args as cs h => exact .fn f args as cs (h.mono hle)
  | mark r l h => exact .mark r l (hle _ _ h)

inductive DRs (ρ : Rho) : List DefO → List Deferred → Prop
  | nil : DRs ρ [] []
  | cons {d : DefO} {e : Deferred} {ds : List DefO} {es : List Deferred} (hd : DR ρ d e) (h : DRs ρ ds es) : DRs ρ (d :: ds) (e :: es)

theorem DRs.mono {ρ' : Rho} (hle : Le ρ ρ') {ds : List DefO} {es : List Deferred} (h : DRs ρ ds es) : DRs ρ' ds es := by
  induction h with
  | nil => exact .nil
  | cons hd h ih => exact .cons (hd.mono hle) ih

theorem VRs.toL' {xs : List SV} {us : Array Value} (h : VRs ρ xs us.toList) : LR ρ (ofListS xs) us.toList := h.toL

theorem args_sound {l : Array Operand} {r : List Od} (h : mapO od l.toList = some r) (hev : Evs ρ od ev a) : VRs ρ (r.map ev) (l.map a).toList := by
  have := mapO_all h hev
  simpa using this

/-- calls. -/
theorem call_goes (hX : SoundX P X) (haf : ∀ f, a (.func f) = .func (.func f) #[] #[]) (hs : opO P od o.op = some s) (hev : Evs ρ od ev a) (hr : HR P ρ h w) {r : OR}
    (hk : (∃ f l, s = .call f l) ∨ (∃ f l, s = .callv f l) ∨ (∃ f n l, s = .invoke f n l)) (he : evS s X ev h = some r) :
    ∃ c, r = crOR c ∧ Goes P ρ h w (execOp a o) c := by
  cases ho : o.op <;> rw [ho] at hs <;> simp only [opO] at hs
  case call c =>
    split at hs
    · rename_i b hb
      exfalso
      cases b <;> unfold builtinO at hs <;> (try simp only [cond_eq_ite] at hs) <;> (repeat' split at hs) <;> first
        | contradiction
        | (obtain ⟨_, _, rfl⟩ := map_some hs; rcases hk with ⟨_, _, h⟩ | ⟨_, _, h⟩ | ⟨_, _, _, h⟩ <;> cases h)
        | (cases hs; rcases hk with ⟨_, _, h⟩ | ⟨_, _, h⟩ | ⟨_, _, _, h⟩ <;> cases h)
    · rename_i f hc
      obtain ⟨l, hl, rfl⟩ := map_some hs
      simp only [evS] at he
      obtain ⟨r, e1, e2⟩ := callV_inv he
      refine ⟨r, e2, Goes.of_call hX e1 hr (us := #[] ++ c.args.map a ++ #[]) (by simpa using args_sound hl hev) ?_⟩
      exact run_call_value ho hc (haf f)
    · rename_i f hnf hc
      split at hs
      · rename_i f' l hf hl
        cases hs
        simp only [evS] at he
        obtain ⟨r, e1, e2⟩ := callF_sound hX hr he (hev f f' hf) (args_sound hl hev)
        refine ⟨r, e1, ?_⟩
        have : execOp a o = (do let d ← Deferred.ofValue (a f) (c.args.map a); invoke d.target d.args) := by
          simp [execOp, ho, resolve, hc]
        rw [this]; exact e2
      · cases hs
    · rename_i rc name hc
      split at hs
      · rename_i r' l hf hl
        cases hs
        simp only [evS] at he
        obtain ⟨r, e1, nx, F, e2, e3, e4⟩ := invokeS_sound hX hr he (hev rc r' hf) (args_sound hl hev)
        exact ⟨r, e1, nx, F, (run_call_invoke ho hc).trans e2, e3, e4⟩
      · cases hs
  all_goals
    exfalso
    try simp only [cond_eq_ite] at hs
    repeat' split at hs
    all_goals first
      | contradiction
      | (obtain ⟨_, _, rfl⟩ := map_some hs; rcases hk with ⟨_, _, h⟩ | ⟨_, _, h⟩ | ⟨_, _, _, h⟩ <;> cases h)
      | (cases hs; rcases hk with ⟨_, _, h⟩ | ⟨_, _, h⟩ | ⟨_, _, _, h⟩ <;> cases h)

/-- panics. -/
theorem pan_sound {x : Od} (hs : opO P od o.op = some (.pan x)) (hev : Evs ρ od ev a) {r : OR} (he : evS (.pan x) X ev h = some r) :
    ∃ v u, r = .pan v h ∧ VR ρ v u ∧ (execOp a o).run P w = .halt (.panic u) w := by
  have key : ∀ (t : TypeId) (u : Value), (Instr.panic (.iface t u)).run P w = .halt (.panic (.iface t u)) w := fun t u => rfl
  have hev' : ∀ y, od y = some x → ∃ v u, r = .pan v h ∧ VR ρ v u ∧ a y = u ∧ (Instr.panic u).run P w = .halt (.panic u) w := by
    intro y hy
    have vx := hev y x hy
    simp only [evS] at he
    split at he
    · rename_i t v e
      rw [e] at vx
      cases he
      generalize a y = u at vx
      cases vx with
      | ifc _ _ u hu => exact ⟨_, _, rfl, .ifc _ _ _ hu, rfl, key _ _⟩
    · cases he
  cases ho : o.op <;> rw [ho] at hs <;> simp only [opO] at hs
  case call c =>
    split at hs
    · rename_i b hb
      cases b <;> unfold builtinO at hs <;> (try simp only [cond_eq_ite] at hs) <;> (repeat' split at hs) <;> try first
        | contradiction
        | (obtain ⟨_, _, h⟩ := map_some hs; cases h; done)
        | (cases hs; done)
      rename_i y _ hargs
      obtain ⟨y', hy, e⟩ := map_some hs
      cases e
      obtain ⟨v, u, h1, h2, h3, h4⟩ := hev' y hy
      refine ⟨v, u, h1, h2, ?_⟩
      obtain ⟨cs, hcs⟩ := run_builtin (P := P) (a := a) ho hb w
      rw [hcs]
      have hg : (c.args.map a).getD 0 .nilIface = u := by
        have : c.args = #[y] := by rw [← Array.toArray_toList (xs := c.args), hargs]
        simp [this, h3]
      simp [builtin, hg, h4]
    · obtain ⟨_, _, h⟩ := map_some hs; cases h
    · split at hs <;> cases hs
    · split at hs <;> cases hs
  case panic y =>
    obtain ⟨y', hy, e⟩ := map_some hs
    cases e
    obtain ⟨v, u, h1, h2, h3, h4⟩ := hev' y hy
    refine ⟨v, u, h1, h2, ?_⟩
    simp [execOp, ho, h3, h4]
  all_goals
    exfalso
    try simp only [cond_eq_ite] at hs
    repeat' split at hs
    all_goals first
      | contradiction
      | (obtain ⟨_, _, h⟩ := map_some hs; cases h; done)
      | (cases hs; done)

/-- recover. -/
theorem recov_sound (hs : opO P od o.op = some .recov) : (execOp a o).run P w = .ok .recover w := by
  cases ho : o.op <;> rw [ho] at hs <;> simp only [opO] at hs
  case call c =>
    split at hs
    · rename_i b hb
      cases b <;> unfold builtinO at hs <;> (try simp only [cond_eq_ite] at hs) <;> (repeat' split at hs) <;> try first
        | contradiction
        | (obtain ⟨_, _, h⟩ := map_some hs; cases h; done)
        | (cases hs; done)
      obtain ⟨cs, hcs⟩ := run_builtin (P := P) (a := a) ho hb w
      rw [hcs]; rfl
    · obtain ⟨_, _, h⟩ := map_some hs; cases h
    · split at hs <;> cases hs
    · split at hs <;> cases hs
  all_goals
    exfalso
    try simp only [cond_eq_ite] at hs
    repeat' split at hs
    all_goals first
      | contradiction
      | (obtain ⟨_, _, h⟩ := map_some hs; cases h; done)
      | (cases hs; done)

/-- deferrals. -/
theorem dfr_sound {f : Od} {l : List Od} (hs : opO P od o.op = some (.dfr f l)) (hev : Evs ρ od ev a) {r : OR} (he : evS (.dfr f l) X ev h = some r) :
    ∃ d e, r = .dfr d ∧ DR ρ d e ∧ (execOp a o).run P w = .ok (.defer e) w := by
  cases ho : o.op <;> rw [ho] at hs <;> simp only [opO] at hs
  case call c =>
    exfalso
    split at hs
    · rename_i b hb
      cases b <;> unfold builtinO at hs <;> (try simp only [cond_eq_ite] at hs) <;> (repeat' split at hs) <;> first
        | contradiction
        | (obtain ⟨_, _, h⟩ := map_some hs; cases h; done)
        | (cases hs; done)
    · obtain ⟨_, _, h⟩ := map_some hs; cases h
    · split at hs <;> cases hs
    · split at hs <;> cases hs
  case defer c =>
    split at hs
    · rename_i y hc
      split at hs
      · rename_i f' l' hf hl
        cases hs
        have vf := hev y f hf
        have va := args_sound hl hev
        simp only [evS] at he
        split at he
        · rename_i g first captured e
          split at he
          · rename_i xa xb ha hb
            cases he
            rw [e] at vf
            generalize hu : a y = u at vf
            cases vf with
            | fn _ f' _ _ as cs hf hla hlc =>
              cases hf with
              | same _ _ =>
                refine ⟨_, _, rfl, .fn g _ (as ++ c.args.map a) cs ?_, ?_⟩
                · have h1 := toListS_sound hla ha
                  have h2 := toListS_sound hlc hb
                  simpa using h1.append (va.append h2)
                · simp [execOp, ho, resolve, hc, hu, Deferred.ofValue]
          · cases he
        · cases he
      · cases hs
    · cases hs
  all_goals
    exfalso
    try simp only [cond_eq_ite] at hs
    repeat' split at hs
    all_goals first
      | contradiction
      | (obtain ⟨_, _, h⟩ := map_some hs; cases h; done)
      | (cases hs; done)

end Go.Sh

/-
  A region's operations at the machine, one behind the other.
-/
namespace Go.Sh
set_option linter.unusedVariables false
variable {P : Program} {ρ : Rho} {X : Ctx}

/-- what may be recovered in a frame. -/
def PR (ρ : Rho) (b : Frame) (cs : List Frame) : PS → Prop
  | .non => b.roundOf = none ∧ (b.kind = .normal ∨ (b.kind = .deferred ∧ ∃ c rest, cs = c :: rest ∧ c.mode = .returning))
  | .rnd => b.roundOf ≠ none
  | .pan v r => b.roundOf = none ∧ b.kind = .deferred ∧ ∃ c rest u, cs = c :: rest ∧ c.mode = .panicking [{ v := u, recovered := r }] ∧ VR ρ v u

theorem PR.mono {ρ' : Rho} (hle : Le ρ ρ') {b : Frame} {cs : List Frame} {p : PS} (h : PR ρ b cs p) : PR ρ' b cs p := by
  cases p with
  | non => exact h
  | rnd => exact h
  | pan v r => obtain ⟨h1, h2, c, rest, u, h3, h4, h5⟩ := h; exact ⟨h1, h2, c, rest, u, h3, h4, h5.mono hle⟩

/-- what becomes of the callers: the one whose panic is recovered says so. -/
def CsTo (p p' : PS) (cs cs' : List Frame) : Prop :=
  (p' = p ∧ cs' = cs) ∨ ∃ v c rest u, p = .pan v false ∧ p' = .pan v true ∧ cs = c :: rest ∧ c.mode = .panicking [{ v := u, recovered := false }] ∧ cs' = { c with mode := .panicking [{ v := u, recovered := true }] } :: rest

theorem CsTo.refl (p : PS) (cs : List Frame) : CsTo p p cs cs := .inl ⟨rfl, rfl⟩

theorem CsTo.trans {p1 p2 p3 : PS} {c1 c2 c3 : List Frame} (h : CsTo p1 p2 c1 c2) (h' : CsTo p2 p3 c2 c3) : CsTo p1 p3 c1 c3 := by
  rcases h with ⟨rfl, rfl⟩ | ⟨v, c, rest, u, e1, e2, e3, e4, e5⟩
  · exact h'
  · rcases h' with ⟨rfl, rfl⟩ | ⟨v', c', rest', u', k1, _⟩
    · exact .inr ⟨v, c, rest, u, e1, e2, e3, e4, e5⟩
    · rw [e2] at k1; cases k1

structure Lay (P : Program) (ρ : Rho) (nt g : Nat) (b : Frame) (cs : List Frame) (s : St) (a : Act) (w : World) : Prop where
  tr : TR ρ nt g s.tm a.tmps
  dr : DRs ρ s.dfs a.defers
  pr : PR ρ b cs s.pan
  hr : HR P ρ s.h w

inductive ER (ρ : Rho) : Ex → Out → Prop
  | norm : ER ρ .norm .norm
  | exit (n : Nat) : ER ρ (.exit n) (.exit n)
  | ret : ER ρ .ret .ret
  | pan (v : SV) (u : Value) (h : VR ρ v u) : ER ρ (.pan v) (.pan u)

/-- the machine comes to where the shadow is. -/
def Ends (P : Program) (nt g : Nat) (ρ : Rho) (b : Frame) (k : List Item) (cs : List Frame) (m : Machine) (s : St) (w : World) (e : Ex) (s' : St) : Prop :=
  ∃ ρ' cs' a' w' E, ER ρ' e E ∧ Lay P ρ' nt g b cs' s' a' w' ∧ Ext ρ s.h w ρ' s'.h w' ∧ CsTo s.pan s'.pan cs cs' ∧ Arr P m b k cs' E a' w'

theorem Ends.of_steps {nt g : Nat} {b : Frame} {k : List Item} {cs cs₁ : List Frame} {m m₁ : Machine} {s s₁ s' : St} {w w₁ : World} {ρ₁ : Rho} {e : Ex} (hs : Steps P m m₁) (hf : ∀ x l, ρ x = some l → num x < num s.h.next)
    (hx : Ext ρ s.h w ρ₁ s₁.h w₁) (hc : CsTo s.pan s₁.pan cs cs₁) (h : Ends P nt g ρ₁ b k cs₁ m₁ s₁ w₁ e s') : Ends P nt g ρ b k cs m s w e s' := by
  obtain ⟨ρ', cs', a', w', E, h1, h2, h3, h4, h5⟩ := h
  exact ⟨ρ', cs', a', w', E, h1, h2, hx.trans h3 hf, hc.trans h4, .of_steps hs h5⟩

/-- no step but the machine's. -/
theorem Ends.head {nt g : Nat} {b : Frame} {k : List Item} {cs : List Frame} {m m₁ : Machine} {s s' : St} {w : World} {e : Ex} (hs : step P m = .next m₁)
    (h : Ends P nt g ρ b k cs m₁ s w e s') : Ends P nt g ρ b k cs m s w e s' := by
  obtain ⟨ρ', cs', a', w', E, h1, h2, h3, h4, h5⟩ := h
  exact ⟨ρ', cs', a', w', E, h1, h2, h3, h4, .of_steps (.one hs) h5⟩

section
variable {b : Frame} {a : Act} {k : List Item} {cs : List Frame} {ops : Array Oper} {i : Nat} {rest : List Nat} {o : Oper} {od : Operand → Option Od} {ev : Od → SV} {s : SOp} {h : H} {w : World}

theorem opO_defer {c : Call} {s : SOp} (hs : opO P od (.defer c) = some s) : ∃ f l, s = .dfr f l := by
  simp only [opO] at hs
  split at hs
  · split at hs
    · cases hs; exact ⟨_, _, rfl⟩
    · cases hs
  · cases hs

/-- an operation that comes to a value. -/
theorem op_val (hX : SoundX P X) (ho : ops[i]? = some o) (hw : Region.wanted o (yielded ops a.tmps) = true) (hs : opO P od o.op = some s) (hev : Evs ρ od ev a.eval) (hr : HR P ρ h w) {v : SV} {h' : H}
    (he : evS s X ev h = some (.val v h')) :
    ∃ ρ' w' u, VR ρ' v u ∧ HR P ρ' h' w' ∧ Ext ρ h w ρ' h' w' ∧ Steps P (lone (fr_ b a (.inRegion ops (i :: rest) :: k)) cs w) (lone (fr_ b (a.put o.dst u) (.inRegion ops rest :: k)) cs w') := by
  have hfin : ∀ v, (fr_ b a (.inRegion ops (i :: rest) :: k)).finish v = fr_ b (a.put o.dst v) (.inRegion ops rest :: k) := by
    intro v; rw [finish_fr, ho]; rfl
  by_cases hp : plainOp s = true
  · obtain ⟨ρ', w', u, h1, h2, h3, h4⟩ := st_good (b := b) (k := k) (cs := cs) (rest := rest) ho hw (good_op (fun v => rfl) hs hp hev hr he)
    exact ⟨ρ', w', u, h1, h2, h3, .one h4⟩
  · have hnd : ∀ c, o.op ≠ .defer c := by
      intro c hc
      rw [hc] at hs
      obtain ⟨f, l, rfl⟩ := opO_defer hs
      simp only [evS] at he
      split at he
      · split at he <;> cases he
      · cases he
    have hk : (∃ f l, s = .call f l) ∨ (∃ f l, s = .callv f l) ∨ (∃ f n l, s = .invoke f n l) := by
      cases s <;> first
        | exact .inl ⟨_, _, rfl⟩
        | exact .inr (.inl ⟨_, _, rfl⟩)
        | exact .inr (.inr ⟨_, _, _, rfl⟩)
        | exact absurd rfl hp
        | (exfalso; simp only [evS] at he; repeat' split at he
           all_goals cases he)
    obtain ⟨c, hc, nx, F, hrun, hnx, hR⟩ := call_goes hX (fun f => rfl) hs hev hr hk he
    cases c with
    | pan v h => cases hc
    | ret v h =>
      cases hc
      obtain ⟨ρ', w', u, h1, h2, h3, h4⟩ := hR (fr_ b a (.inRegion ops (i :: rest) :: k)) cs
      refine ⟨ρ', w', u, h1, h2, h3, ?_⟩
      rw [hfin] at h4
      rcases hnx with ⟨f, us, rfl, rfl⟩ | ⟨l, f, t, as, bd, rfl, rfl⟩
      · exact .head (st_enter ho hw (.inr hnd) hrun) h4
      · exact .head (st_round ho hw (.inr hnd) hrun) h4

/-- an operation that panics. -/
theorem op_pan (hX : SoundX P X) (ho : ops[i]? = some o) (hw : Region.wanted o (yielded ops a.tmps) = true) (hs : opO P od o.op = some s) (hev : Evs ρ od ev a.eval) (hr : HR P ρ h w) {v : SV} {h' : H}
    (he : evS s X ev h = some (.pan v h')) :
    ∃ ρ' w' u k1, VR ρ' v u ∧ HR P ρ' h' w' ∧ Ext ρ h w ρ' h' w' ∧ Steps P (lone (fr_ b a (.inRegion ops (i :: rest) :: k)) cs w) (lone { fr_ b a k1 with mode := .panicking [{ v := u, recovered := false }] } cs w') := by
  have hnd : ∀ c, o.op ≠ .defer c := by
    intro c hc
    rw [hc] at hs
    obtain ⟨f, l, rfl⟩ := opO_defer hs
    simp only [evS] at he
    split at he
    · split at he <;> cases he
    · cases he
  by_cases hk : (∃ f l, s = .call f l) ∨ (∃ f l, s = .callv f l) ∨ (∃ f n l, s = .invoke f n l)
  · obtain ⟨c, hc, nx, F, hrun, hnx, hR⟩ := call_goes hX (fun f => rfl) hs hev hr hk he
    cases c with
    | ret v h => cases hc
    | pan v h =>
      cases hc
      obtain ⟨ρ', w', u, h1, h2, h3, h4⟩ := hR (fr_ b a (.inRegion ops (i :: rest) :: k)) cs
      refine ⟨ρ', w', u, .inRegion ops (i :: rest) :: k, h1, h2, h3, ?_⟩
      rcases hnx with ⟨f, us, rfl, rfl⟩ | ⟨l, f, t, as, bd, rfl, rfl⟩
      · exact .head (st_enter ho hw (.inr hnd) hrun) h4
      · exact .head (st_round ho hw (.inr hnd) hrun) h4
  · have : ∃ x, s = .pan x := by
      cases s <;> first
        | exact ⟨_, rfl⟩
        | (exfalso; first
            | exact hk (.inl ⟨_, _, rfl⟩)
            | exact hk (.inr (.inl ⟨_, _, rfl⟩))
            | exact hk (.inr (.inr ⟨_, _, _, rfl⟩)))
        | (exfalso; simp only [evS, oBin, oSlc, appGo, cond_eq_ite] at he; repeat' split at he
           all_goals cases he)
    obtain ⟨x, rfl⟩ := this
    obtain ⟨v', u, e1, h1, h2⟩ := pan_sound (w := w) hs hev he
    cases e1
    exact ⟨ρ, w, u, _, h1, hr, Ext.refl _ _ _, .one (st_panic ho hw (.inr hnd) h2)⟩

end
end Go.Sh

/-
  Regions in the order of the text, at the machine.
-/
namespace Go.Sh
set_option linter.unusedVariables false
variable {P : Program} {ρ : Rho} {X : Ctx}

section
variable {b : Frame} {a : Act} {k : List Item} {cs : List Frame} {ops : Array Oper} {i : Nat} {rest : List Nat} {o : Oper} {w : World}

theorem st_recover (ho : ops[i]? = some o) (hw : Region.wanted o (yielded ops a.tmps) = true) (hb : b.roundOf = none) (hr : (execOp a.eval o).run P w = .ok .recover w) :
    step P (lone (fr_ b a (.inRegion ops (i :: rest) :: k)) cs w) =
      match tryRecover (fr_ b a (.inRegion ops (i :: rest) :: k)) cs with
      | some (v, cs') => .next (lone (fr_ b (a.put o.dst v) (.inRegion ops rest :: k)) cs' w)
      | none => .next (lone (fr_ b (a.put o.dst .nilIface) (.inRegion ops rest :: k)) cs w) := by
  have hfin : ∀ v, (fr_ b a (.inRegion ops (i :: rest) :: k)).finish v = fr_ b (a.put o.dst v) (.inRegion ops rest :: k) := by
    intro v; rw [finish_fr, ho]; rfl
  have hg := stepG_fr (P := P) (b := b) (k := k) (cs := cs) (w := w) (rest := rest) ho hw (.inl hb)
  have hro : (fr_ b a (.inRegion ops (i :: rest) :: k)).roundOf = none := hb
  cases ht : tryRecover (fr_ b a (.inRegion ops (i :: rest) :: k)) cs with
  | none =>
    refine step_lone_go ?_
    rw [hg, ← hfin]
    simp [stepG.apply, hr, hro, ht]
  | some p =>
    obtain ⟨v, cs'⟩ := p
    refine step_lone_go ?_
    rw [hg, ← hfin]
    simp [stepG.apply, hr, hro, ht]

theorem tryRecover_none {p : PS} (hp : PR ρ b cs p) (h : p = .non ∨ ∃ v, p = .pan v true) (t : List Item) : b.roundOf = none ∧ tryRecover (fr_ b a t) cs = none := by
  rcases h with rfl | ⟨v, rfl⟩
  · obtain ⟨h1, h2 | ⟨h2, c, rest, h3, h4⟩⟩ := hp
    · exact ⟨h1, by unfold tryRecover; simp [fr_, h2]⟩
    · exact ⟨h1, by unfold tryRecover; subst h3; simp [fr_, h2, h4]⟩
  · obtain ⟨h1, h2, c, rest, u, h3, h4, h5⟩ := hp
    exact ⟨h1, by unfold tryRecover; subst h3; simp [fr_, h2, h4]⟩

theorem dstO_none : ∀ (g : Nat), dstO g none = none := fun _ => rfl

theorem soO_inv {nt g : Nat} {all : List Oper} {done : List (Option Tmp)} {so : SO} (h : soO P nt g all done o = some so) :
    dstIn nt o.dst = true ∧ guardO all done o = some (so.g, so.gw) ∧ opO P (odO (fun t => lkT g t done 0)) o.op = some so.op ∧ so.dst = dstO g o.dst := by
  unfold soO at h
  split at h
  · rename_i k b op h1 h2 h3
    cases h
    exact ⟨h1, h2, h3, rfl⟩
  · cases h

end

variable {nt g : Nat} {b : Frame} {k : List Item} {ops : Array Oper}

theorem range'_cons (i n : Nat) : List.range' i (n + 1) = i :: List.range' (i + 1) n := List.range'_succ ..

theorem runOps_sound (hX : SoundX P X) : ∀ (l : List Oper) (sl : List SO) (done : List (Option Tmp)) (loc : List SV) (s s' : St) (e : Ex) (i : Nat) (ρ : Rho) (cs : List Frame) (a : Act) (w : World),
    regO P nt g ops.toList done l = some sl → l = ops.toList.drop i → runOps X sl loc s = some (e, s') → DoneR ρ done loc a.tmps → Lay P ρ nt g b cs s a w →
    Ends P nt g ρ b k cs (lone (fr_ b a (.inRegion ops (List.range' i l.length) :: k)) cs w) s w e s'
  | [], sl, done, loc, s, s', e, i, ρ, cs, a, w, hreg, hl, hrun, hd, hlay => by
    simp only [regO, Option.some.injEq] at hreg; subst hreg
    simp only [runOps, Option.some.injEq, Prod.mk.injEq] at hrun
    obtain ⟨rfl, rfl⟩ := hrun
    exact ⟨ρ, cs, a, w, .norm, .norm, hlay, Ext.refl _ _ _, CsTo.refl _ _, .one (by simpa using st_region_end)⟩
  | o :: l, sl, done, loc, s, s', e, i, ρ, cs, a, w, hreg, hl, hrun, hd, hlay => by
    simp only [regO] at hreg
    split at hreg
    case h_2 => cases hreg
    rename_i so sl' hso hreg'
    cases hreg
    obtain ⟨hdst, hgd, hop, hdo⟩ := soO_inv hso
    have hoi : ops[i]? = some o := by
      have := congrArg (·[0]?) hl
      simp only [List.getElem?_cons_zero, List.getElem?_drop, Nat.add_zero, Array.getElem?_toList] at this
      exact this.symm
    have hl' : l = ops.toList.drop (i + 1) := by
      have := congrArg (List.drop 1) hl
      simpa [List.drop_drop, Nat.add_comm] using this
    have hwant := wanted_eq (ops := ops) rfl hd hgd
    rw [List.length_cons, range'_cons]
    simp only [runOps] at hrun
    -- one more, that came to 'v'
    have more : ∀ (ρ' : Rho) (w' : World) (v : SV) (u : Value) (h' : H) (cs' : List Frame) (dfs' : List DefO) (pan' : PS) (a' : Act), a'.tmps = a.tmps → Le ρ ρ' → VR ρ' v u → HR P ρ' h' w' → DRs ρ' dfs' a'.defers → PR ρ' b cs' pan' →
        runOps X sl' (v :: loc) ⟨setT s.tm so.dst v, dfs', pan', h'⟩ = some (e, s') →
        Ends P nt g ρ' b k cs' (lone (fr_ b (a'.put o.dst u) (.inRegion ops (List.range' (i + 1) l.length) :: k)) cs' w') ⟨setT s.tm so.dst v, dfs', pan', h'⟩ w' e s' := by
      intro ρ' w' v u h' cs' dfs' pan' a' ha hle hv hh hds hp hrun'
      have ht : TR ρ' nt g s.tm a'.tmps := by rw [ha]; exact hlay.tr.mono hle
      refine runOps_sound hX l sl' (o.dst :: done) (v :: loc) _ s' e (i + 1) ρ' cs' _ w' hreg' hl' hrun' ?_ ⟨?_, ?_, hp, hh⟩
      · exact DoneR.cons (by rw [ha]; exact hd.mono hle) hv hdst ht.size
      · show TR ρ' nt g (setT s.tm so.dst v) _
        rw [hdo]; exact ht.set hv hdst
      · show DRs ρ' dfs' _
        rw [put_defers]; exact hds
    split at hrun
    · -- not wanted
      rename_i hwf
      have hst := st_op_skip (P := P) (b := b) (a := a) (k := k) (cs := cs) (w := w) (ops := ops) (i := i) (rest := List.range' (i + 1) l.length) (by
        rw [hoi, Option.map_some, Option.getD_some, ← hwant]; exact hwf)
      rw [hoi, Option.bind_some] at hst
      refine Ends.of_steps (.one hst) hlay.hr.fresh (Ext.refl _ _ _) (CsTo.refl _ _) (more ρ w und undef s.h cs s.dfs s.pan a rfl (Le.refl _) (VR_und _) hlay.hr hlay.dr hlay.pr hrun)
    · rename_i hwt
      have hw : Region.wanted o (yielded ops a.tmps) = true := by rw [← hwant]; exact hwt
      have hev : Evs ρ (odO (fun t => lkT g t done 0)) (evOd loc s.tm) a.eval := evs_region hd hlay.tr
      split at hrun
      · cases hrun
      · rename_i v h' he
        obtain ⟨ρ', w', u, h1, h2, h3, h4⟩ := op_val (b := b) (k := k) (cs := cs) (rest := List.range' (i + 1) l.length) hX hoi hw hop hev hlay.hr he
        exact Ends.of_steps (s₁ := ⟨setT s.tm so.dst v, s.dfs, s.pan, h'⟩) h4 hlay.hr.fresh h3 (CsTo.refl _ _) (more ρ' w' v u h' cs s.dfs s.pan a rfl h3.le h1 h2 (hlay.dr.mono h3.le) (hlay.pr.mono h3.le) hrun)
      · rename_i v h' he
        cases hrun
        obtain ⟨ρ', w', u, k1, h1, h2, h3, h4⟩ := op_pan (b := b) (k := k) (cs := cs) (rest := List.range' (i + 1) l.length) hX hoi hw hop hev hlay.hr he
        exact ⟨ρ', cs, a, w', .pan u, .pan v u h1, ⟨hlay.tr.mono h3.le, hlay.dr.mono h3.le, hlay.pr.mono h3.le, h2⟩, h3, CsTo.refl _ _, k1, h4⟩
      · -- a deferral
        rename_i d he
        have hdf : ∃ f l, so.op = .dfr f l := by
          cases hso' : so.op <;> rw [hso'] at he <;> first
            | exact ⟨_, _, rfl⟩
            | (exfalso; simp only [evS, oBin, oSlc, appGo, callV, callF, invokeS, cond_eq_ite] at he; repeat' split at he
               all_goals first | contradiction | cases he)
        obtain ⟨f, l', hf⟩ := hdf
        rw [hf] at he hop
        obtain ⟨d', e', e1, h1, h2⟩ := dfr_sound (w := w) hop hev he
        cases e1
        have hrn : s.pan ≠ .rnd → b.roundOf = none := by
          intro hne
          have hp := hlay.pr
          cases hpan : s.pan with
          | non => rw [hpan] at hp; exact hp.1
          | rnd => exact absurd hpan hne
          | pan v r => rw [hpan] at hp; exact hp.1
        split at hrun
        · cases hrun
        · rename_i hne
          have hst := st_defer (P := P) (b := b) (k := k) (cs := cs) (rest := List.range' (i + 1) l.length) hoi hw (hrn hne) h2
          exact Ends.of_steps (s₁ := ⟨setT s.tm so.dst und, d :: s.dfs, s.pan, s.h⟩) (.one hst) hlay.hr.fresh (Ext.refl _ _ _) (CsTo.refl _ _)
            (more ρ w und undef s.h cs (d :: s.dfs) s.pan { a with defers := e' :: a.defers } rfl (Le.refl _) (VR_und _) hlay.hr (.cons h1 hlay.dr) hlay.pr hrun)
      · -- recover
        rename_i he
        have hrc : so.op = .recov := by
          cases hso' : so.op <;> rw [hso'] at he <;> first
            | rfl
            | (exfalso; simp only [evS, oBin, oSlc, appGo, callV, callF, invokeS, cond_eq_ite] at he; repeat' split at he
               all_goals first | contradiction | cases he)
        rw [hrc] at hop
        have hrun2 := recov_sound (P := P) (a := a.eval) (w := w) hop
        split at hrun
        · cases hrun
        · rename_i v hpan
          have hp := hlay.pr
          rw [hpan] at hp
          obtain ⟨h1, h2, c, crest, u, h3, h4, h5⟩ := hp
          have hst := st_recover (P := P) (b := b) (k := k) (cs := cs) (rest := List.range' (i + 1) l.length) hoi hw h1 hrun2
          have htr : tryRecover (fr_ b a (.inRegion ops (i :: List.range' (i + 1) l.length) :: k)) cs = some (u, { c with mode := .panicking [{ v := u, recovered := true }] } :: crest) := by
            unfold tryRecover; subst h3; simp [fr_, h2, h4]
          rw [htr] at hst
          refine Ends.of_steps (s₁ := ⟨setT s.tm so.dst v, s.dfs, .pan v true, s.h⟩) (.one hst) hlay.hr.fresh (Ext.refl _ _ _) (.inr ⟨v, c, crest, u, hpan, rfl, h3, h4, rfl⟩)
            (more ρ w v u s.h _ s.dfs (.pan v true) a rfl (Le.refl _) h5 hlay.hr hlay.dr ⟨h1, h2, _, crest, u, rfl, rfl, h5⟩ hrun)
        · rename_i hne1 hne2
          have hcase : s.pan = .non ∨ ∃ v, s.pan = .pan v true := by
            cases hpan : s.pan with
            | non => exact .inl rfl
            | rnd => exact absurd hpan hne1
            | pan v r =>
              cases r with
              | true => exact .inr ⟨v, rfl⟩
              | false => exact absurd hpan (hne2 v)
          obtain ⟨h1, h2⟩ := tryRecover_none (a := a) hlay.pr hcase (.inRegion ops (i :: List.range' (i + 1) l.length) :: k)
          have hst := st_recover (P := P) (b := b) (k := k) (cs := cs) (rest := List.range' (i + 1) l.length) hoi hw h1 hrun2
          rw [h2] at hst
          exact Ends.of_steps (s₁ := ⟨setT s.tm so.dst .nili, s.dfs, s.pan, s.h⟩) (.one hst) hlay.hr.fresh (Ext.refl _ _ _) (CsTo.refl _ _)
            (more ρ w .nili .nilIface s.h cs s.dfs s.pan a rfl (Le.refl _) .nili hlay.hr hlay.dr hlay.pr hrun)

theorem reg_sound (hX : SoundX P X) {id : Nat} {sl : List SO} {s s' : St} {e : Ex} {cs : List Frame} {a : Act} {w : World} (hreg : regO P nt g ops.toList [] ops.toList = some sl) (hrun : runOps X sl [] s = some (e, s')) (hlay : Lay P ρ nt g b cs s a w) :
    Ends P nt g ρ b k cs (lone (fr_ b a (.code (.region id ops false) :: k)) cs w) s w e s' := by
  refine Ends.head st_region ?_
  have := runOps_sound (b := b) (k := k) hX ops.toList sl [] [] s s' e 0 ρ cs a w hreg (by simp) hrun .nil hlay
  rw [List.range_eq_range']
  simpa using this

end Go.Sh

/-
  Code but loops over functions and drawn regions.
-/
namespace Go.Sh
set_option linter.unusedVariables false
variable {P : Program} {ρ : Rho} {X : Ctx} {nt g : Nat} {b : Frame} {k : List Item}

theorem Ends.norm_inv {cs : List Frame} {m : Machine} {s s' : St} {w : World} (h : Ends P nt g ρ b k cs m s w .norm s') :
    ∃ ρ' cs' a' w', Lay P ρ' nt g b cs' s' a' w' ∧ Ext ρ s.h w ρ' s'.h w' ∧ CsTo s.pan s'.pan cs cs' ∧ Steps P m (lone (fr_ b a' k) cs' w') := by
  obtain ⟨ρ', cs', a', w', E, h1, h2, h3, h4, h5⟩ := h
  cases h1
  exact ⟨ρ', cs', a', w', h2, h3, h4, h5⟩

theorem Ends.lift {k' : List Item} {cs : List Frame} {m : Machine} {s s' : St} {w : World} {e : Ex} (hk : ∀ n, exitTo n k' = exitTo n k) (he : e ≠ .norm) (h : Ends P nt g ρ b k' cs m s w e s') : Ends P nt g ρ b k cs m s w e s' := by
  obtain ⟨ρ', cs', a', w', E, h1, h2, h3, h4, h5⟩ := h
  refine ⟨ρ', cs', a', w', E, h1, h2, h3, h4, ?_⟩
  cases h1 with
  | norm => exact absurd rfl he
  | exit n => obtain ⟨k1, h6, h7⟩ := h5; exact ⟨k1, h6.trans (hk n), h7⟩
  | ret => exact h5
  | pan v u h => exact h5

theorem Ends.refl {cs : List Frame} {s : St} {a : Act} {w : World} {m : Machine} {e : Ex} {E : Out} (hl : Lay P ρ nt g b cs s a w) (he : ER ρ e E) (ha : Arr P m b k cs E a w) : Ends P nt g ρ b k cs m s w e s :=
  ⟨ρ, cs, a, w, E, he, hl, Ext.refl _ _ _, CsTo.refl _ _, ha⟩

theorem Ends.then {k' : List Item} {cs : List Frame} {m : Machine} {s s₁ s' : St} {w : World} {e : Ex} (h : Ends P nt g ρ b k' cs m s w .norm s₁) (hf : ∀ x l, ρ x = some l → num x < num s.h.next)
    (hn : ∀ ρ' cs' a' w', Lay P ρ' nt g b cs' s₁ a' w' → Ends P nt g ρ' b k cs' (lone (fr_ b a' k') cs' w') s₁ w' e s') : Ends P nt g ρ b k cs m s w e s' := by
  obtain ⟨ρ', cs', a', w', h1, h2, h3, h4⟩ := h.norm_inv
  exact Ends.of_steps h4 hf h2 h3 (hn ρ' cs' a' w' h1)

section
variable {a : Act} {cs : List Frame} {w : World}
theorem st_label {l : Nat} : step P (lone (fr_ b a (.code (.label l) :: k)) cs w) = .next (lone (fr_ b a k) cs w) :=
  step_lone_go (by simp [stepG, stepG.exec, fr_])
theorem st_scope {c : Code} : step P (lone (fr_ b a (.code (.scope c) :: k)) cs w) = .next (lone (fr_ b a (.code c :: .inScope c :: k)) cs w) :=
  step_lone_go (by simp [stepG, stepG.exec, fr_])
theorem st_inScope {c : Code} : step P (lone (fr_ b a (.inScope c :: k)) cs w) = .next (lone (fr_ b a k) cs w) :=
  step_lone_go (by simp [stepG, stepG.exec, fr_])
end

/-- drawn regions are sound. -/
def DrawOK (P : Program) (X : Ctx) : Prop :=
  ∀ {nt g : Nat} {b : Frame} {k : List Item} {id : Nat} {ops : Array Oper} {l : List DO} {s s' : St} {e : Ex} {ρ : Rho} {cs : List Frame} {a : Act} {w : World},
    dregO P nt g ops.toList = some l → runDraw X l s = some (e, s') → Lay P ρ nt g b cs s a w →
    Ends P nt g ρ b k cs (lone (fr_ b a (.code (.region id ops true) :: k)) cs w) s w e s'

/-- loops over functions are sound. -/
def RangeOK (P : Program) (X : Ctx) : Prop :=
  ∀ {nt g lf : Nat} {b : Frame} {k : List Item} {f : Operand} {ps : Array Tmp} {as bd : Code} {s s' : St} {e : Ex} {ρ : Rho} {cs : List Frame} {a : Act} {w : World},
    exec X lf (codeO P nt g (.rangeFunc f ps as bd)) s = some (e, s') → Lay P ρ nt g b cs s a w →
    Ends P nt g ρ b k cs (lone (fr_ b a (.code (.rangeFunc f ps as bd) :: k)) cs w) s w e s'

theorem loopN_sound {lf : Nat} {c : Code} (ih : ∀ (k : List Item) (ρ : Rho) (cs : List Frame) (a : Act) (w : World) (s s' : St) (e : Ex), exec X lf (codeO P nt g c) s = some (e, s') → Lay P ρ nt g b cs s a w →
      Ends P nt g ρ b k cs (lone (fr_ b a (.code c :: k)) cs w) s w e s') :
    ∀ (n : Nat) (ρ : Rho) (cs : List Frame) (a : Act) (w : World) (s s' : St) (e : Ex), loopN (exec X lf (codeO P nt g c)) n s = some (e, s') → Lay P ρ nt g b cs s a w →
      Ends P nt g ρ b k cs (lone (fr_ b a (.code c :: .inLoop c :: k)) cs w) s w e s'
  | 0, ρ, cs, a, w, s, s', e, hrun, hl => by simp [loopN] at hrun
  | n + 1, ρ, cs, a, w, s, s', e, hrun, hl => by
    simp only [loopN] at hrun
    split at hrun
    · rename_i s1 hb
      refine (ih (.inLoop c :: k) ρ cs a w s s1 .norm hb hl).then hl.hr.fresh (fun ρ' cs' a' w' hl' => ?_)
      exact Ends.head st_inLoop (loopN_sound ih n ρ' cs' a' w' s1 s' e hrun hl')
    · rename_i hne
      refine (ih (.inLoop c :: k) ρ cs a w s s' e hrun hl).lift (k' := .inLoop c :: k) (fun n => rfl) (fun he => ?_)
      subst he; exact hne s' hrun

theorem exec_sound (hX : SoundX P X) (hD : DrawOK P X) (hR : RangeOK P X) (lf : Nat) : ∀ (c : Code) (k : List Item) (ρ : Rho) (cs : List Frame) (a : Act) (w : World) (s s' : St) (e : Ex),
    exec X lf (codeO P nt g c) s = some (e, s') → Lay P ρ nt g b cs s a w → Ends P nt g ρ b k cs (lone (fr_ b a (.code c :: k)) cs w) s w e s' := by
  intro c
  induction c with
  | skip =>
    intro k ρ cs a w s s' e hrun hl
    simp only [codeO, exec, Option.some.injEq, Prod.mk.injEq] at hrun
    obtain ⟨rfl, rfl⟩ := hrun
    exact Ends.refl hl .norm (.one st_skip)
  | label n =>
    intro k ρ cs a w s s' e hrun hl
    simp only [codeO, exec, Option.some.injEq, Prod.mk.injEq] at hrun
    obtain ⟨rfl, rfl⟩ := hrun
    exact Ends.refl hl .norm (.one st_label)
  | region id ops draw =>
    intro k ρ cs a w s s' e hrun hl
    cases draw with
    | true =>
      simp only [codeO, cond_true] at hrun
      split at hrun
      · rename_i l hd; exact hD hd hrun hl
      · simp [exec] at hrun
    | false =>
      simp only [codeO, cond_false] at hrun
      split at hrun
      · rename_i l hd; exact reg_sound hX hd hrun hl
      · simp [exec] at hrun
  | seq x y ihx ihy =>
    intro k ρ cs a w s s' e hrun hl
    simp only [codeO, exec] at hrun
    refine Ends.head st_seq ?_
    split at hrun
    · rename_i s1 hb
      exact (ihx (.code y :: k) ρ cs a w s s1 .norm hb hl).then hl.hr.fresh (fun ρ' cs' a' w' hl' => ihy k ρ' cs' a' w' s1 s' e hrun hl')
    · rename_i hne
      refine (ihx (.code y :: k) ρ cs a w s s' e hrun hl).lift (k' := .code y :: k) (fun n => rfl) (fun he => ?_)
      subst he; exact hne s' hrun
  | cond c x y ihx ihy =>
    intro k ρ cs a w s s' e hrun hl
    simp only [codeO] at hrun
    split at hrun
    · rename_i c' hc
      have hv := evs_region (DoneR.nil (loc := [])) hl.tr c c' hc
      simp only [exec] at hrun
      split at hrun
      · rename_i h1
        rw [h1] at hv
        exact Ends.head (st_cond (t := true) hv.bool_inv) (ihx k ρ cs a w s s' e hrun hl)
      · rename_i h1
        rw [h1] at hv
        exact Ends.head (st_cond (t := false) hv.bool_inv) (ihy k ρ cs a w s s' e hrun hl)
      · cases hrun
    · simp [exec] at hrun
  | block id x ihx =>
    intro k ρ cs a w s s' e hrun hl
    simp only [codeO, exec] at hrun
    refine Ends.head st_block ?_
    split at hrun
    · rename_i n s1 hb
      have hi := ihx (.inBlock id :: k) ρ cs a w s s1 (.exit n) hb hl
      by_cases hn : n = id
      · subst hn
        rw [beq_true rfl] at hrun
        simp only [cond_true, Option.some.injEq, Prod.mk.injEq] at hrun
        obtain ⟨rfl, rfl⟩ := hrun
        obtain ⟨ρ', cs', a', w', E, h1, h2, h3, h4, h5⟩ := hi
        cases h1
        obtain ⟨k1, h6, h7⟩ := h5
        have he : exitTo n k1 = some k := by rw [h6]; simp [exitTo]
        exact ⟨ρ', cs', a', w', .norm, .norm, h2, h3, h4, h7.trans (.one (st_exit he))⟩
      · rw [beq_false hn] at hrun
        simp only [cond_false, Option.some.injEq, Prod.mk.injEq] at hrun
        obtain ⟨rfl, rfl⟩ := hrun
        obtain ⟨ρ', cs', a', w', E, h1, h2, h3, h4, h5⟩ := hi
        cases h1
        obtain ⟨k1, h6, h7⟩ := h5
        refine ⟨ρ', cs', a', w', .exit n, .exit n, h2, h3, h4, k1, ?_, h7⟩
        rw [h6]
        have : (id == n) = false := by simp; exact fun e => hn e.symm
        simp [exitTo, this]
    · rename_i hne
      have hi := ihx (.inBlock id :: k) ρ cs a w s s' e hrun hl
      cases e with
      | norm => exact hi.then hl.hr.fresh (fun ρ' cs' a' w' hl' => Ends.refl hl' .norm (.one st_inBlock))
      | exit n => exact absurd hrun (hne n s')
      | ret => 
        obtain ⟨ρ', cs', a', w', E, h1, h2, h3, h4, h5⟩ := hi
        cases h1
        exact ⟨ρ', cs', a', w', .ret, .ret, h2, h3, h4, h5⟩
      | pan v =>
        obtain ⟨ρ', cs', a', w', E, h1, h2, h3, h4, h5⟩ := hi
        cases h1 with
        | pan v u h => exact ⟨ρ', cs', a', w', .pan u, .pan v u h, h2, h3, h4, h5⟩
  | loop x ihx =>
    intro k ρ cs a w s s' e hrun hl
    simp only [codeO, exec] at hrun
    exact Ends.head st_loop (loopN_sound (k := k) ihx lf ρ cs a w s s' e hrun hl)
  | scope x ihx =>
    intro k ρ cs a w s s' e hrun hl
    simp only [codeO] at hrun
    refine Ends.head st_scope ?_
    have hi := ihx (.inScope x :: k) ρ cs a w s s' e hrun hl
    by_cases he : e = .norm
    · subst he
      exact hi.then hl.hr.fresh (fun ρ' cs' a' w' hl' => Ends.refl hl' .norm (.one st_inScope))
    · exact hi.lift (k' := .inScope x :: k) (fun n => rfl) he
  | exit n =>
    intro k ρ cs a w s s' e hrun hl
    simp only [codeO, exec, Option.some.injEq, Prod.mk.injEq] at hrun
    obtain ⟨rfl, rfl⟩ := hrun
    exact Ends.refl hl (.exit n) ⟨k, rfl, .refl _ _⟩
  | ret =>
    intro k ρ cs a w s s' e hrun hl
    simp only [codeO, exec, Option.some.injEq, Prod.mk.injEq] at hrun
    obtain ⟨rfl, rfl⟩ := hrun
    exact Ends.refl hl .ret ⟨k, .refl _ _⟩
  | rangeFunc f ps as bd _ _ =>
    intro k ρ cs a w s s' e hrun hl
    exact hR hrun hl
  | goto l => intro k ρ cs a w s s' e hrun hl; simp [codeO, exec] at hrun
  | refuse why => intro k ρ cs a w s s' e hrun hl; simp [codeO, exec] at hrun

end Go.Sh

/-
  Loops over functions.
-/
namespace Go.Sh
set_option linter.unusedVariables false
variable {P : Program} {ρ : Rho} {X : Ctx} {nt g : Nat} {b : Frame} {k : List Item} {h : H} {w : World}

theorem del_at (h : H) (b x : Pos) : (h.del b).at_ x = if x = b then none else h.at_ x := T.get_put _ _ _ _

/-- An object that the shadow forgets. -/
theorem HR.del (hr : HR P ρ h w) {b : Pos} {o0 : SObj} {loc : Loc} (hb : h.at_ b = some o0) (hρ : ρ b = some loc) (hs0 : ∀ x n g fam, o0 ≠ .row x n g true fam) (O : Obj) :
    HR P ρ (h.del b) (wput w loc.rb O) ∧ Ext ρ h w ρ (h.del b) (wput w loc.rb O) := by
  have hat := del_at h b
  have hne : ∀ x ox lx, h.at_ x = some ox → ρ x = some lx → x ≠ b → lx.rb ≠ loc.rb := by
    intro x ox lx hx hlx hxb hrb
    obtain ⟨x1, n1, g1, x2, n2, g2, fm, e1, e2⟩ := hr.excl x b ox o0 lx loc hx hb hlx hρ hxb hrb
    exact hs0 _ _ _ _ e2
  have hold : ∀ x o, (h.del b).at_ x = some o → x ≠ b ∧ h.at_ x = some o := by
    intro x o hx
    rw [hat] at hx
    split at hx
    · cases hx
    · rename_i hxb; exact ⟨hxb, hx⟩
  refine ⟨⟨hr.fresh, ?_, ?_, ?_, ?_, ?_⟩, ⟨Le.refl _, (fun x lx h1 h2 => by rw [h1] at h2; cases h2), Nat.le_refl _, by simp, ?_, (fun x lx h1 h2 => by rw [h1] at h2; cases h2), ?_, ?_, rfl, rfl, rfl⟩⟩
  · intro x ox hx; exact hr.hfresh x ox (hold x ox hx).2
  · intro x lx hx; rw [wput_size]; exact hr.lt x lx hx
  · intro x ox lx hx hlx
    obtain ⟨hxb, hx'⟩ := hold x ox hx
    refine (hr.obj x ox lx hx' hlx).keep (Le.refl _) (wput_other (hne x ox lx hx' hlx hxb)) (fun m lm es ver hlm hm => ?_)
    obtain ⟨hmb, hm'⟩ := hold m _ hm
    exact ⟨hm', wput_other (hne m _ lm hm' hlm hmb)⟩
  · intro x1 x2 o1 o2 l1 l2 h1 h2 r1 r2 hn hrb
    exact hr.excl x1 x2 o1 o2 l1 l2 (hold x1 o1 h1).2 (hold x2 o2 h2).2 r1 r2 hn hrb
  · intro x l sz g fam hx; exact hr.fam x l sz g fam (hold x _ hx).2
  · intro r hlt hn
    exact wput_other (fun e => hn b loc hρ (by rw [hb]; rfl) e.symm)
  · intro x hx hlt
    rw [hat]
    split
    · exact .inr rfl
    · exact .inl rfl
  · intro x hlt hx
    rw [hat]
    split
    · rfl
    · exact hx

def loopW (b : Frame) (a : Act) (ps : Array Tmp) (as bd : Code) (w : World) : World :=
  (w.alloc (.deferred (some []))).alloc (.loop { state := .ready, pending := none, fn := b.fn, tmps := a.tmps, params := ps, assign := as, body := bd, defers := w.heap.size })

def markD (w : World) : Deferred := { target := .collected w.heap.size, args := #[] }

theorem st_rangeFunc {a : Act} {cs : List Frame} {f : Operand} {ps : Array Tmp} {as bd : Code} (hb : b.roundOf = none) {nx : Next} {F : Frame}
    (hrun : (do let d ← Deferred.ofValue (a.eval f) #[.func (.yield (w.heap.size + 1)) #[] #[]]; invoke d.target d.args : Sem Next).run P (loopW b a ps as bd w) = .ok nx (loopW b a ps as bd w))
    (hn : (∃ f us, nx = .enter f us ∧ F = Frame.enter P f us .normal) ∨ (∃ l f t as bd, nx = .round l f t as bd ∧ F = Frame.round l f t as bd .normal)) :
    step P (lone (fr_ b a (.code (.rangeFunc f ps as bd) :: k)) cs w) =
      .next (lone F (fr_ b { a with defers := markD w :: a.defers } (.inRangeFunc (w.heap.size + 1) :: k) :: cs) (loopW b a ps as bd w)) := by
  have he : ∀ (a' : Act) t, a'.tmps = a.tmps → (fr_ b a' t).eval f = a.eval f := by
    intro a' t ht; rw [eval_fr]; cases f <;> simp [Act.eval, ht]
  have h1 : (Instr.enterLoop b.fn a.tmps ps as bd none).run P w = .ok (w.heap.size + 1, [markD w]) (loopW b a ps as bd w) := by
    simp [Instr.enterLoop, loopW, markD]
  refine step_lone_go ?_
  have he2 : (fr_ b { a with defers := markD w :: a.defers } (.inRangeFunc (w.heap.size + 1) :: k)).eval f = a.eval f := he _ _ rfl
  simp only [fr_] at he2
  simp only [stepG, stepG.exec, fr_, hb, Sem.runT_eq, h1, GStep.bare_after, List.cons_append, List.nil_append, stepG.apply, if_true, resolve]
  simp only [hb] at he2
  simp only [he2]
  have hargs : Array.map (Frame.eval { fn := b.fn, tmps := a.tmps, todo := Item.inRangeFunc (w.heap.size + 1) :: k, defers := markD w :: a.defers, mode := FrameMode.run, kind := b.kind, roundOf := none }) #[Operand.const (Value.func (Fn.yield (w.heap.size + 1)) #[] #[])] = #[.func (.yield (w.heap.size + 1)) #[] #[]] := by simp [Frame.eval]
  simp only [hargs, hrun]
  rcases hn with ⟨f, us, rfl, rfl⟩ | ⟨l, f, t, as', bd', rfl, rfl⟩ <;> simp

theorem st_endRange {a : Act} {cs : List Frame} {l : Nat} {jump : Option Code} {w' : World} (hrun : (Instr.endLoop l).run P w = .ok jump w') :
    step P (lone (fr_ b a (.endRangeFunc l :: k)) cs w) = .next (lone (fr_ b a ((jump.map Item.code).toList ++ k)) cs w') :=
  step_lone_go (by simp [stepG, stepG.exec, fr_, hrun])

theorem finish_inRange {a : Act} {l : Nat} {u : Value} : (fr_ b a (.inRangeFunc l :: k)).finish u = fr_ b a (.endRangeFunc l :: k) := rfl

theorem run_endLoop {l : Nat} {lo : Loop} (hl : w.heap[l]? = some (.loop lo)) (hb : lo.state ≠ .busy) : (Instr.endLoop l).run P w = .ok lo.pending (wput w l (.loop { lo with state := .exhausted })) := by
  have : (lo.state == .busy) = false := by
    cases h : lo.state <;> first | rfl | exact absurd h hb
  have h1 : (Instr.getLoop l).run P w = .ok lo w := by simp [Instr.getLoop, run_getObj hl (by simp)]
  have h2 : ∀ O, (setObj l O).run P w = .ok () (wput w l O) := fun O => run_setObj O hl (by simp)
  unfold Instr.endLoop
  simp [h1, h2]
  exact fun e => absurd e hb

theorem PR.rnd_none {cs : List Frame} {p : PS} (h : PR ρ b cs p) (hp : p ≠ .rnd) : b.roundOf = none := by
  cases p with
  | non => exact h.1
  | rnd => exact absurd rfl hp
  | pan v r => exact h.1

theorem range_ok (hX : SoundX P X) : RangeOK P X := by
  intro nt g lf b k f ps as bd s s' e ρ cs a w hrun hl
  simp only [codeO] at hrun
  split at hrun
  case h_2 => simp [exec] at hrun
  rename_i f' hf hps
  have hv := evs_region (DoneR.nil (loc := [])) hl.tr f f' hf
  simp only [exec] at hrun
  split at hrun
  · cases hrun
  rename_i hpn
  have hbr := hl.pr.rnd_none hpn
  -- the two new objects
  obtain ⟨n1, n2⟩ := hl.hr.new .dfr (.deferred (some [])) (loc0 w) rfl (fun ρ' h' w' hle hb hm => hb) (by simp)
  have htr1 := hl.tr.mono n2.le
  have hlt : ∀ t ∈ ps.toList, t < nt := by
    intro t ht
    have := List.all_eq_true.1 hps t ht
    simpa [Nat.blt_eq] using this
  obtain ⟨m1, m2⟩ := n1.new (.loop { state := .ready, pending := none, tm := s.tm, params := ps.toList.map fun t => dstO g (some t), assign := codeO P nt g as, body := codeO P nt g bd })
    (.loop { state := .ready, pending := none, fn := b.fn, tmps := a.tmps, params := ps, assign := as, body := bd, defers := w.heap.size }) (loc0 (w.alloc (.deferred (some [])))) rfl
    (fun ρ' h' w' hle hb hm => ⟨_, hb, ⟨rfl, .none, nt, g, rfl, rfl, rfl, hlt, htr1.mono hle⟩⟩) (by simp)
  have hx := n2.trans m2 hl.hr.fresh
  -- the call
  split at hrun
  case h_2 => cases hrun
  rename_i v h2 hcall
  have hyield : VR (upd (upd ρ s.h.next (loc0 w)) (s.h.new .dfr).next (loc0 (w.alloc (.deferred (some []))))) (.fn (.yield (natOfPos (s.h.new .dfr).next)) .nl .nl) (.func (.yield (w.heap.size + 1)) #[] #[]) := by
    refine .fn _ _ _ _ _ _ ?_ .nl .nl
    have : w.heap.size + 1 = (loc0 (w.alloc (.deferred (some [])))).rb := by simp [loc0]
    rw [this]
    exact .yield _ _ (upd_same _ _)
  obtain ⟨c, hc, nx, F, h3, h4, h5⟩ := callF_sound (us := #[.func (.yield (w.heap.size + 1)) #[] #[]]) hX m1 hcall (hv.mono hx.le) (.cons hyield .nil)
  cases c with
  | pan v h => cases hc
  | ret v h2 =>
  cases hc
  have hst := st_rangeFunc (b := b) (k := k) (cs := cs) hbr h3 h4
  obtain ⟨ρ2, w2, u, k1, k2, k3, k4⟩ := h5 (fr_ b { a with defers := markD w :: a.defers } (.inRangeFunc (w.heap.size + 1) :: k)) cs
  rw [finish_inRange] at k4
  -- the loop's end
  split at hrun
  case h_2 => cases hrun
  rename_i o hlo
  have hρ2 : ρ2 (s.h.new .dfr).next = some (loc0 (w.alloc (.deferred (some [])))) := k3.le _ _ (upd_same _ _)
  obtain ⟨lo, j1, j2⟩ := k2.obj _ _ _ hlo hρ2
  have hsz : (loc0 (w.alloc (.deferred (some [])))).rb = w.heap.size + 1 := by simp [loc0]
  rw [hsz] at j1
  have hnb : o.state ≠ .busy := by
    intro hb; simp only [hb] at hrun; cases hrun
  have hend := run_endLoop (P := P) j1 (by rw [j2.state]; exact hnb)
  obtain ⟨d1, d2⟩ := k2.del hlo hρ2 (by simp) (.loop { lo with state := .exhausted })
  rw [hsz] at d1 d2
  have hx2 := (hx.trans k3 hl.hr.fresh).trans d2 hl.hr.fresh
  have hle : Le ρ ρ2 := hx2.le
  have hmark : DR ρ2 (.mark s.h.next) (markD w) := by
    have : ρ2 s.h.next = some (loc0 w) := by
      refine k3.le _ _ (m2.le _ _ (upd_same _ _))
    exact .mark _ _ this
  have hlay : Lay P ρ2 nt g b cs ⟨s.tm, .mark s.h.next :: s.dfs, s.pan, h2.del (s.h.new .dfr).next⟩ { a with defers := markD w :: a.defers } (wput w2 (w.heap.size + 1) (.loop { lo with state := .exhausted })) :=
    ⟨hl.tr.mono hle, .cons hmark (hl.dr.mono hle), hl.pr.mono hle, d1⟩
  have hsteps : Steps P (lone (fr_ b a (.code (.rangeFunc f ps as bd) :: k)) cs w) (lone (fr_ b { a with defers := markD w :: a.defers } ((lo.pending.map Item.code).toList ++ k)) cs (wput w2 (w.heap.size + 1) (.loop { lo with state := .exhausted }))) :=
    .head hst (k4.trans (.one (st_endRange hend)))
  have hrun' : (match o.pending with
      | none => some (Ex.norm, (⟨s.tm, .mark s.h.next :: s.dfs, s.pan, h2.del (s.h.new .dfr).next⟩ : St))
      | some (.exit n) => some (.exit n, ⟨s.tm, .mark s.h.next :: s.dfs, s.pan, h2.del (s.h.new .dfr).next⟩)
      | some .ret => some (.ret, ⟨s.tm, .mark s.h.next :: s.dfs, s.pan, h2.del (s.h.new .dfr).next⟩)) = some (e, s') := by
    cases hs : o.state <;> simp only [hs] at hrun <;> first | exact hrun | exact absurd hs hnb
  refine Ends.of_steps (s₁ := ⟨s.tm, .mark s.h.next :: s.dfs, s.pan, h2.del (s.h.new .dfr).next⟩) hsteps hl.hr.fresh hx2 (CsTo.refl _ _) ?_
  have hpend := j2.pend
  generalize o.pending = pe at hrun' hpend
  generalize lo.pending = le' at hpend hlay ⊢
  cases hpend with
  | none => cases hrun'; exact Ends.refl hlay .norm (.refl _ _)
  | exit n => cases hrun'; exact Ends.refl hlay (.exit n) ⟨k, rfl, .refl _ _⟩
  | ret => cases hrun'; exact Ends.refl hlay .ret ⟨k, .refl _ _⟩

end Go.Sh

/-
  Frames that end: what is deferred, results; functions entered.
-/
namespace Go.Sh
set_option linter.unusedVariables false
variable {P : Program} {ρ : Rho} {X : Ctx} {nt g : Nat} {b : Frame} {k : List Item} {h : H} {w : World}

theorem iota_eq : ∀ (n i : Nat), iota n i = List.range' i n
  | 0, i => rfl
  | n + 1, i => by rw [iota, iota_eq n, List.range'_succ]

/-- arguments: those that are kept. -/
theorem argsT_sound : ∀ (n i : Nat) (args : List SV) (us : List Value) (t0 t : T SV), argsT ((List.range' i n).map fun t => dstO g (some t)) args t0 = some t → VRs ρ args us →
    args.length = n ∧ us.length = n ∧ ∀ x, g.testBit x = true → if i ≤ x ∧ x < i + n then VR ρ ((T.get (Pos.ofNat x) t).getD und) (us.getD (x - i) undef) else T.get (Pos.ofNat x) t = T.get (Pos.ofNat x) t0
  | 0, i, args, us, t0, t, h, hv => by
    cases hv with
    | nil =>
      simp only [List.range'_zero, List.map_nil, argsT, Option.some.injEq] at h
      subst h
      refine ⟨rfl, rfl, fun x hx => ?_⟩
      rw [if_neg (by omega)]
    | cons _ _ => simp [argsT] at h
  | n + 1, i, args, us, t0, t, h, hv => by
    cases hv with
    | nil => simp [argsT, List.range'_succ] at h
    | cons hv0 hv =>
      rename_i v u args us
      simp only [List.range'_succ, List.map_cons, argsT] at h
      obtain ⟨h1, h2, h3⟩ := argsT_sound n (i + 1) args us _ t h hv
      refine ⟨by simp [h1], by simp [h2], fun x hx => ?_⟩
      have h4 := h3 x hx
      by_cases hxi : x = i
      · subst hxi
        rw [if_pos (by omega)]
        rw [if_neg (by omega)] at h4
        rw [h4]
        simp only [dstO, hx, cond_true, setT, T.get_put, if_true, Option.getD_some, Nat.sub_self, List.getD_cons_zero]
        exact hv0
      · by_cases hin : i ≤ x ∧ x < i + (n + 1)
        · rw [if_pos hin]
          rw [if_pos (by omega)] at h4
          have : x - i = (x - (i + 1)) + 1 := by omega
          rw [this, List.getD_cons_succ]
          exact h4
        · rw [if_neg hin]
          rw [if_neg (by omega)] at h4
          rw [h4]
          simp only [dstO]
          cases hb : Nat.testBit g i with
          | false => rfl
          | true =>
            simp only [cond_true, setT, T.get_put]
            rw [if_neg (fun e => hxi (ofNat_inj e))]

theorem enter_tr {args : List SV} {us : Array Value} {t : T SV} {n : Nat} (hg : g < 2 ^ nt) (hn : n ≤ nt) (h : argsT ((iota n 0).map fun t => dstO g (some t)) args .nil = some t) (hv : VRs ρ args us.toList) :
    TR ρ nt g t (us ++ Array.replicate (nt - us.size) undef) := by
  rw [iota_eq] at h
  obtain ⟨h1, h2, h3⟩ := argsT_sound n 0 args us.toList .nil t h hv
  have hus : us.size = n := by simpa using h2
  refine ⟨by simp; omega, hg, fun x hx => ?_⟩
  have h4 := h3 x hx
  by_cases hlt : x < n
  · rw [if_pos (by omega)] at h4
    have : (us ++ Array.replicate (nt - us.size) undef).getD x undef = us.toList.getD x undef := by
      rw [Array.getD_eq_getD_getElem?, Array.getElem?_append_left (by omega), List.getD_eq_getElem?_getD, Array.getElem?_toList]
    rw [this]; exact h4
  · rw [if_neg (by omega)] at h4
    rw [h4]
    have : (us ++ Array.replicate (nt - us.size) undef).getD x undef = undef := by
      rw [Array.getD_eq_getD_getElem?, Array.getElem?_append_right (by omega), Array.getElem?_replicate]
      split <;> rfl
    rw [this]
    simp only [T.get_nil, Option.getD_none]
    exact VR_und _

/-- parameters of a round. -/
theorem bindT_sound : ∀ (ps : List Tmp) (args : List SV) (us : List Value) (t0 t : T SV) (tmps : Array Value), bindT (ps.map fun t => dstO g (some t)) args t0 = some t → VRs ρ args us → (∀ t ∈ ps, t < nt) → TR ρ nt g t0 tmps →
    ps.length = us.length ∧ TR ρ nt g t ((ps.zip us).foldl (fun tmps (x : Tmp × Value) => tmps.setIfInBounds x.1 x.2) tmps)
  | [], args, us, t0, t, tmps, h, hv, hlt, ht => by
    cases hv with
    | nil => simp only [List.map_nil, bindT, Option.some.injEq] at h; subst h; exact ⟨rfl, ht⟩
    | cons _ _ => simp [bindT] at h
  | p :: ps, args, us, t0, t, tmps, h, hv, hlt, ht => by
    cases hv with
    | nil => simp [bindT] at h
    | cons hv0 hv =>
      rename_i v u args us
      simp only [List.map_cons, bindT] at h
      have h1 := TR.set (a := ⟨tmps, []⟩) (d := some p) ht hv0 (by simpa [dstIn, Nat.blt_eq] using hlt p (by simp))
      obtain ⟨h2, h3⟩ := bindT_sound ps args us _ t _ h hv (fun t ht => hlt t (by simp [ht])) h1
      exact ⟨by simp [h2], h3⟩

def resOf (tmps : Array Value) : ResultVar → Sem Value
  | .tmp t => pure (tmps.getD t undef)
  | .cell c t => do loadVar t (← asAddr (tmps.getD c undef))

theorem results_eq (fn : Func) (tmps : Array Value) : results fn tmps = (do let vs ← fn.results.mapM (resOf tmps); pure (if h : vs.size = 1 then vs[0] else .tuple vs)) := rfl

/-- results. -/
theorem resultsS_sound {s : St} {a : Act} (hr : HR P ρ s.h w) (ht : TR ρ nt g s.tm a.tmps) : ∀ (l : List ResultVar) (rs : List SRes) (xs : List SV), resO P g l = some rs → resultsS rs s = some xs →
    ∃ us, VRs ρ xs us ∧ (l.mapM (m := Sem) (resOf a.tmps)).run P w = .ok us w
  | [], rs, xs, h1, h2 => by
    simp only [resO, Option.some.injEq] at h1; subst h1
    simp only [resultsS, Option.some.injEq] at h2; subst h2
    exact ⟨[], .nil, by simp⟩
  | .tmp t :: l, rs, xs, h1, h2 => by
    simp only [resO] at h1
    split at h1
    · rename_i x r hx hr'
      cases h1
      simp only [resultsS] at h2
      split at h2
      · rename_i ys hys
        cases h2
        obtain ⟨us, h3, h4⟩ := resultsS_sound hr ht l r ys hr' hys
        have hv := evs_region (DoneR.nil (loc := [])) ht (.tmp t) x (by simpa [odO] using hx)
        exact ⟨_ :: us, .cons hv h3, by simp only [List.mapM_cons, Sem.run_bind, resOf, Sem.run_pure, Result.andThen_ok, h4]; rfl⟩
      · cases h2
    · cases h1
  | .cell c t :: l, rs, xs, h1, h2 => by
    simp only [resO] at h1
    split at h1
    · rename_i x n ag r hx hsz hr'
      cases h1
      simp only [resultsS] at h2
      split at h2
      · rename_i y ys hy hys
        cases h2
        obtain ⟨us, h3, h4⟩ := resultsS_sound hr ht l r ys hr' hys
        have hv := evs_region (DoneR.nil (loc := [])) ht (.tmp c) x (by simpa [odO] using hx)
        obtain ⟨ad, u, hua, k1, k2⟩ := loadS_sound hr hsz hv hy
        simp only [Act.eval] at hua
        exact ⟨u :: us, .cons k2 h3, by simp only [List.mapM_cons, Sem.run_bind, resOf, hua, asAddr, Sem.run_pure, Result.andThen_ok, k1, h4]⟩
      · cases h2
    · cases h1

theorem tupled_sound {xs : List SV} {us : List Value} (h : VRs ρ xs us) : VR ρ (tupled xs) (if h : us.toArray.size = 1 then us.toArray[0] else .tuple us.toArray) := by
  cases h with
  | nil => exact .tup _ _ .nl
  | cons hv h =>
    cases h with
    | nil => exact hv
    | cons hv2 h =>
      rw [dif_neg (by simp)]
      exact .tup _ _ (by simpa using (VRs.cons hv (.cons hv2 h)).toL)

theorem results_sound {s : St} {a : Act} {fn : Func} {rs : List SRes} {xs : List SV} (hr : HR P ρ s.h w) (ht : TR ρ nt g s.tm a.tmps) (h1 : resO P g fn.results.toList = some rs) (h2 : resultsS rs s = some xs) :
    ∃ v, (results fn a.tmps).run P w = .ok v w ∧ VR ρ (tupled xs) v := by
  obtain ⟨us, h3, h4⟩ := resultsS_sound hr ht fn.results.toList rs xs h1 h2
  refine ⟨_, ?_, tupled_sound h3⟩
  rw [results_eq, ← Array.toArray_toList (xs := fn.results)]
  simp only [List.mapM_toArray, Sem.run_bind, Sem.run_map, h4]
  rfl

end Go.Sh

/-
  Calls of functions, rounds; the whole run is sound.
-/
namespace Go.Sh
set_option linter.unusedVariables false
variable {P : Program} {ρ : Rho} {X : Ctx} {h : H} {w : World}

/-- the table: each function's shadow comes of the program's function. -/
def TabOK (P : Program) (F : FuncId → Option SFunc) : Prop :=
  ∀ f sf, F f = some sf → ∃ fn, P.funcs[f]? = some fn ∧ funcO P fn = some sf ∧ fn.name ≠ "runtime.NumGoroutine"

def base (f : FuncId) (kd : CallKind) (ro : Option Nat) : Frame := { (default : Frame) with fn := f, kind := kd, roundOf := ro }

theorem funcO_inv {fn : Func} {sf : SFunc} (h : funcO P fn = some sf) : ∃ c g, fn.body = some c ∧ g < 2 ^ fn.ntmps ∧ fn.params.size + fn.nfree ≤ fn.ntmps ∧ resO P g fn.results.toList = some sf.res ∧
    sf.ps = (iota (fn.params.size + fn.nfree) 0).map (fun t => dstO g (some t)) ∧ sf.body = codeO P fn.ntmps g c := by
  unfold funcO at h
  split at h
  · rename_i c hc
    simp only at h
    split at h
    · rename_i rs hr hb
      cases h
      rw [Bool.and_eq_true] at hb
      exact ⟨c, _, hc, by simpa [Nat.blt_eq] using hb.1, Nat.le_of_ble_eq_true hb.2, hr, rfl, rfl⟩
    · cases h
  · cases h

theorem run_callFunc {f : FuncId} {fn : Func} {c : Code} {us : Array Value} (hf : P.funcs[f]? = some fn) (hn : fn.name ≠ "runtime.NumGoroutine") (hb : fn.body = some c) : (callFunc f us).run P w = .ok (.enter f us) w := by
  have : (fn.name == "runtime.NumGoroutine") = false := by simpa using hn
  simp [callFunc, hf, hn, hb]

/-- a function's body. -/
theorem body_sound {F : FuncId → Option SFunc} (hF : TabOK P F) (hX : SoundX P X) (hD : DrawOK P X) {lf : Nat} {f : FuncId} {args : List SV} {pan : PS} {res : List SRes} {e : Ex} {s' : St} (hrun : runBody F X lf f args pan h = some (res, e, s'))
    (hr : HR P ρ h w) {us : Array Value} (hu : VRs ρ args us.toList) {kd : CallKind} {cs : List Frame} (hp : PR ρ (base f kd none) cs pan) :
    ∃ fn nt g, P.funcs[f]? = some fn ∧ resO P g fn.results.toList = some res ∧ (callFunc f us).run P w = .ok (.enter f us) w ∧
      ∃ ρ' cs' a' w' E, ER ρ' e E ∧ Lay P ρ' nt g (base f kd none) cs' s' a' w' ∧ Ext ρ h w ρ' s'.h w' ∧ CsTo pan s'.pan cs cs' ∧ Arr P (lone (Frame.enter P f us kd) cs w) (base f kd none) [] cs' E a' w' := by
  unfold runBody at hrun
  split at hrun
  case h_2 => cases hrun
  rename_i sf hsf
  obtain ⟨fn, hf, hfo, hnm⟩ := hF f sf hsf
  obtain ⟨c, g, hc, hg, hn, hres, hps, hbody⟩ := funcO_inv hfo
  split at hrun
  case h_2 => cases hrun
  rename_i t ht
  split at hrun
  case h_2 => cases hrun
  rename_i e' s'' hex
  cases hrun
  rw [hps] at ht
  rw [hbody] at hex
  have htr := enter_tr (ρ := ρ) hg hn ht hu
  refine ⟨fn, fn.ntmps, g, hf, hres, run_callFunc hf hnm hc, ?_⟩
  have hent : Frame.enter P f us kd = fr_ (base f kd none) ⟨us ++ Array.replicate (fn.ntmps - us.size) undef, []⟩ [.code c] := by
    simp [Frame.enter, fr_, base, hf, hc]
  rw [hent]
  exact exec_sound hX hD (range_ok hX) lf c [] ρ cs ⟨us ++ Array.replicate (fn.ntmps - us.size) undef, []⟩ w ⟨t, [], pan, h⟩ s' e hex ⟨htr, .nil, hp, hr⟩

/-! The end of a frame. -/
def ModeR (ρ : Rho) : PS → FrameMode → Prop
  | .non, m => m = .returning
  | .pan v r, m => r = false ∧ ∃ u, m = .panicking [{ v := u, recovered := false }] ∧ VR ρ v u
  | .rnd, _ => False

theorem ModeR.mono {ρ' : Rho} (hle : Le ρ ρ') {p : PS} {m : FrameMode} (h : ModeR ρ p m) : ModeR ρ' p m := by
  cases p with
  | non => exact h
  | rnd => exact h
  | pan v r => obtain ⟨h1, u, h2, h3⟩ := h; exact ⟨h1, u, h2, h3.mono hle⟩

theorem st_end_returning {b : Frame} {a : Act} {cs : List Frame} (hb : b.roundOf = none) : step P (lone (fr_ b a []) cs w) = .next (lone { fr_ b a [] with mode := .returning } cs w) :=
  step_lone_go (by simp [stepG, stepG.exec, fr_, hb])
theorem st_ret_returning {b : Frame} {a : Act} {k : List Item} {cs : List Frame} (hb : b.roundOf = none) : step P (lone (fr_ b a (.code .ret :: k)) cs w) = .next (lone { fr_ b a (.code .ret :: k) with mode := .returning } cs w) :=
  step_lone_go (by simp [stepG, stepG.exec, fr_, hb])

/-- the frame of a function that leaves. -/
structure Leav (P : Program) (ρ : Rho) (nt g : Nat) (fr : Frame) (dfs : List DefO) (p : PS) (s : St) (w : World) : Prop where
  tr : TR ρ nt g s.tm fr.tmps
  dr : DRs ρ dfs fr.defers
  mode : ModeR ρ p fr.mode
  hr : HR P ρ s.h w

theorem st_unwind_mark {fr : Frame} {cs : List Frame} {r : Nat} {ds : List Deferred} (hm : fr.mode ≠ .run) (hd : fr.defers = { target := .collected r, args := #[] } :: ds) (hr : w.heap[r]? = some (.deferred (some []))) :
    step P (lone fr cs w) = .next (lone { fr with defers := ds } cs (wput w r (.deferred none))) := by
  have h1 : (Instr.takeDeferred r).run P w = .ok [] (wput w r (.deferred none)) := by
    have h2 : (setObj r (.deferred none)).run P w = .ok () (wput w r (.deferred none)) := run_setObj _ hr (by simp)
    simp [Instr.takeDeferred, run_getObj hr (by simp), h2]
  refine step_lone_go ?_
  cases hmd : fr.mode with
  | run => exact absurd hmd hm
  | _ => simp [stepG, hmd, unwind, hd, h1]

theorem st_unwind_call {fr : Frame} {cs : List Frame} {f : FuncId} {as us : Array Value} {ds : List Deferred} (hm : fr.mode ≠ .run) (hd : fr.defers = { target := .fn (.func f) us, args := as } :: ds)
    (hr : (callFunc f (as ++ us)).run P w = .ok (.enter f (as ++ us)) w) :
    step P (lone fr cs w) = .next (lone (Frame.enter P f (as ++ us) .deferred) ({ fr with defers := ds } :: cs) w) := by
  refine step_lone_go ?_
  cases hmd : fr.mode with
  | run => exact absurd hmd hm
  | _ => simp [stepG, hmd, unwind, hd, callDeferred, invoke, hr]

/-- what becomes of the frame that a deferred call returns to. -/
def backTo (c : Frame) : Frame :=
  match c.mode with
  | .panicking ({ recovered := true, .. } :: older) =>
    match older.dropWhile (!·.goexit) with
    | [] => { c with mode := .returning }
    | rest => { c with mode := .panicking rest }
  | _ => c

theorem st_deferred_end {fr c : Frame} {cs : List Frame} {v : Value} {fn : Func} (hm : fr.mode = .returning) (hd : fr.defers = []) (hk : fr.kind = .deferred) (hf : P.funcs[fr.fn]? = some fn) (hr : (results fn fr.tmps).run P w = .ok v w) :
    step P (lone fr (c :: cs) w) = .next (lone (backTo c) cs w) := by
  refine step_lone_go ?_
  simp only [stepG, hm, unwind, hd, hf, Sem.runT_eq, hr, doReturn, hk, GStep.bare_after]
  rfl

theorem leave_sound {F : FuncId → Option SFunc} (hF : TabOK P F) (hX : SoundX P X) (hD : DrawOK P X) {lf nt g : Nat} {fn : Func} {res : List SRes} (hres : resO P g fn.results.toList = some res) :
    ∀ (dfs : List DefO) (p : PS) (s : St) (r : CR) (ρ : Rho) (w : World) (fr : Frame) (cs : List Frame), leave (dcall F X lf) res dfs p s = some r → Leav P ρ nt g fr dfs p s w → fr.kind = .normal → P.funcs[fr.fn]? = some fn →
      ∃ e w' fr', EndR P ρ s.h w r e w' ∧ Steps P (lone fr cs w) (lone fr' cs w') ∧ fr'.fn = fr.fn ∧ fr'.leaving P w' e
  | [], p, s, r, ρ, w, fr, cs, hrun, hl, hk, hf => by
    have hd : fr.defers = [] := by have := hl.dr; generalize fr.defers = ds at this; cases this; rfl
    cases p with
    | rnd => simp [leave] at hrun
    | non =>
      simp only [leave] at hrun
      split at hrun
      · rename_i xs hxs
        cases hrun
        obtain ⟨v, h1, h2⟩ := results_sound (a := ⟨fr.tmps, []⟩) hl.hr hl.tr hres hxs
        exact ⟨.returned v, w, fr, ⟨ρ, v, rfl, h2, hl.hr, Ext.refl _ _ _⟩, .refl _ _, rfl, hl.mode, hd, hk, fn, hf, h1⟩
      · cases hrun
    | pan v r' =>
      simp only [leave, Option.some.injEq] at hrun
      subst hrun
      obtain ⟨rfl, u, h1, h2⟩ := hl.mode
      exact ⟨.panicked [{ v := u, recovered := false }], w, fr, ⟨ρ, u, rfl, h2, hl.hr, Ext.refl _ _ _⟩, .refl _ _, rfl, h1, hd, fn, hf⟩
  | .mark r0 :: dfs, p, s, r, ρ, w, fr, cs, hrun, hl, hk, hf => by
    simp only [leave] at hrun
    split at hrun
    case h_2 => cases hrun
    rename_i hobj
    have hdr := hl.dr
    generalize hds : fr.defers = ds at hdr
    cases hdr with
    | cons hd0 hdr =>
    rename_i d es
    cases hd0 with
    | mark _ l hρ =>
    have hob := hl.hr.obj _ _ _ hobj hρ
    obtain ⟨d1, d2⟩ := hl.hr.del hobj hρ (by simp) (.deferred none)
    have hm : fr.mode ≠ .run := by
      intro e; have := hl.mode; rw [e] at this
      cases p with
      | non => cases this
      | rnd => exact this
      | pan v r' => obtain ⟨_, _, h, _⟩ := this; cases h
    have hst := st_unwind_mark (P := P) (cs := cs) hm hds hob
    obtain ⟨e, w', fr', h1, h2, h3, h4⟩ := leave_sound hF hX hD hres dfs p ⟨s.tm, s.dfs, s.pan, s.h.del r0⟩ r ρ _ { fr with defers := es } cs hrun ⟨hl.tr, hdr, hl.mode, d1⟩ hk hf
    refine ⟨e, w', fr', ?_, .head hst h2, h3, h4⟩
    cases r with
    | ret v h' => obtain ⟨ρ', u, k1, k2, k3, k4⟩ := h1; exact ⟨ρ', u, k1, k2, k3, d2.trans k4 hl.hr.fresh⟩
    | pan v h' => obtain ⟨ρ', u, k1, k2, k3, k4⟩ := h1; exact ⟨ρ', u, k1, k2, k3, d2.trans k4 hl.hr.fresh⟩
  | .fn f args :: dfs, p, s, r, ρ, w, fr, cs, hrun, hl, hk, hf => by
    simp only [leave] at hrun
    split at hrun
    case h_2 => cases hrun
    rename_i p' h' hdc
    have hdr := hl.dr
    generalize hds : fr.defers = ds at hdr
    cases hdr with
    | cons hd0 hdr =>
    rename_i d es
    cases hd0 with
    | fn _ _ as us hargs =>
    have hm : fr.mode ≠ .run := by
      intro e; have := hl.mode; rw [e] at this
      cases p with
      | non => cases this
      | rnd => exact this
      | pan v r' => obtain ⟨_, _, h, _⟩ := this; cases h
    -- the deferred call
    have hpr : PR ρ (base f .deferred none) ({ fr with defers := es } :: cs) p := by
      have := hl.mode
      cases p with
      | rnd => exact this.elim
      | non => exact ⟨rfl, .inr ⟨rfl, _, _, rfl, this⟩⟩
      | pan v r' => obtain ⟨rfl, u, k1, k2⟩ := this; exact ⟨rfl, rfl, _, _, u, rfl, k1, k2⟩
    obtain ⟨e0, s1, hrb, hdfs, hp', hh', he0⟩ : ∃ e0 s1, runBody F X lf f args p s.h = some ([], e0, s1) ∧ s1.dfs = [] ∧ p' = s1.pan ∧ h' = s1.h ∧ (e0 = .norm ∨ e0 = .ret) := by
      unfold dcall at hdc
      split at hdc
      · rename_i s1 hb
        split at hdc
        · rename_i hd; cases hdc; exact ⟨.norm, s1, hb, hd, rfl, rfl, .inl rfl⟩
        · cases hdc
      · rename_i s1 hb
        split at hdc
        · rename_i hd; cases hdc; exact ⟨.ret, s1, hb, hd, rfl, rfl, .inr rfl⟩
        · cases hdc
      · cases hdc
    obtain ⟨fn1, nt1, g1, hf1, hres1, hcf, ρ1, cs1, a1, w1, E, q1, q2, q3, q4, q5⟩ := body_sound hF hX hD (us := as ++ us) hrb hl.hr (by simpa using hargs) hpr
    have hst := st_unwind_call (P := P) (cs := cs) hm hds hcf
    have had : a1.defers = [] := by have := q2.dr; rw [hdfs] at this; generalize a1.defers = ds at this; cases this; rfl
    have hrs : (results fn1 a1.tmps).run P w1 = .ok (.tuple #[]) w1 := by
      have hnil : fn1.results.toList = [] := by
        cases hl' : fn1.results.toList with
        | nil => rfl
        | cons x l =>
          rw [hl'] at hres1
          cases x <;> simp only [resO] at hres1 <;> split at hres1 <;> cases hres1
      have : fn1.results = #[] := by rw [← Array.toArray_toList (xs := fn1.results), hnil]
      simp [results, this]
    -- back
    obtain ⟨td, hsteps⟩ : ∃ td, Steps P (lone (Frame.enter P f (as ++ us) .deferred) ({ fr with defers := es } :: cs) w) (lone { fr_ (base f .deferred none) a1 td with mode := .returning } cs1 w1) := by
      rcases he0 with rfl | rfl
      · cases q1
        exact ⟨[], Steps.trans q5 (.one (st_end_returning rfl))⟩
      · cases q1
        obtain ⟨k1, q5⟩ := q5
        exact ⟨_, Steps.trans q5 (.one (st_ret_returning rfl))⟩
    subst hp' hh'
    have hle := q3.le
    -- the two ways
    obtain ⟨c1, hcs1, hmode⟩ : ∃ c1, cs1 = c1 :: cs ∧ (backTo c1).tmps = fr.tmps ∧ (backTo c1).defers = es ∧ (backTo c1).fn = fr.fn ∧ (backTo c1).kind = .normal ∧ ModeR ρ1 (match s1.pan with | .pan _ true => .non | q => q) (backTo c1).mode := by
      rcases q4 with ⟨e1, e2⟩ | ⟨v, c, rest, u, e1, e2, e3, e4, e5⟩
      · refine ⟨_, e2, ?_⟩
        have hmd := hl.mode
        rw [e1]
        cases p with
        | rnd => exact hmd.elim
        | non =>
          have : backTo { fr with defers := es } = { fr with defers := es } := by
            unfold backTo; rw [show ({ fr with defers := es } : Frame).mode = .returning from hmd]
          rw [this]; exact ⟨rfl, rfl, rfl, hk, hmd⟩
        | pan v r' =>
          obtain ⟨rfl, u, k1, k2⟩ := hmd
          have : backTo { fr with defers := es } = { fr with defers := es } := by
            unfold backTo; rw [show ({ fr with defers := es } : Frame).mode = _ from k1]
          rw [this]; exact ⟨rfl, rfl, rfl, hk, rfl, u, k1, k2.mono hle⟩
      · cases e3
        exact ⟨_, e5, by rw [e2]; exact ⟨rfl, rfl, rfl, hk, rfl⟩⟩
    obtain ⟨m1, m2, m3, m4, m5⟩ := hmode
    subst hcs1
    have hst2 := st_deferred_end (P := P) (w := w1) (fr := { fr_ (base f .deferred none) a1 td with mode := .returning }) (c := c1) (cs := cs) rfl had rfl hf1 hrs
    obtain ⟨e, w', fr', h1, h2, h3, h4⟩ := leave_sound hF hX hD hres dfs _ ⟨s.tm, s.dfs, s.pan, s1.h⟩ r ρ1 w1 (backTo c1) cs hrun ⟨by rw [m1]; exact hl.tr.mono hle, by rw [m2]; exact hdr.mono hle, m5, q2.hr⟩ m4 (by rw [m3]; exact hf)
    refine ⟨e, w', fr', ?_, .head hst (hsteps.trans (.head hst2 h2)), h3.trans m3, h4⟩
    cases r with
    | ret v h' => obtain ⟨ρ', u, k1, k2, k3, k4⟩ := h1; exact ⟨ρ', u, k1, k2, k3, q3.trans k4 hl.hr.fresh⟩
    | pan v h' => obtain ⟨ρ', u, k1, k2, k3, k4⟩ := h1; exact ⟨ρ', u, k1, k2, k3, q3.trans k4 hl.hr.fresh⟩

end Go.Sh

/-
  Calls and rounds of the shadow are sound; so is the whole run.
-/
namespace Go.Sh
set_option linter.unusedVariables false
variable {P : Program} {ρ : Rho} {X : Ctx} {h : H} {w : World}

/-- summaries that were proved by hand. -/
def SumOK (P : Program) (S : FuncId → Option (List SV → H → Option CR)) : Prop :=
  ∀ {ρ : Rho} {h : H} {w : World} {f : FuncId} {sm : List SV → H → Option CR} {args : List SV} {r : CR} {us : Array Value}, S f = some sm → sm args h = some r → HR P ρ h w → VRs ρ args us.toList →
    (callFunc f us).run P w = .ok (.enter f us) w ∧ Calls P f us w (EndR P ρ h w r)

theorem EndR.comes {r : CR} {e : Ending} {w' : World} {m m' : Machine} (h1 : EndR P ρ h w r e w') (h2 : Steps P m m') : Comes P m m' e := by
  cases r with
  | ret v h' => obtain ⟨_, _, rfl, _⟩ := h1; exact h2
  | pan v h' => obtain ⟨_, _, rfl, _⟩ := h1; exact h2

theorem EndR.trans {ρ1 : Rho} {h1 : H} {w1 w' : World} {r : CR} {e : Ending} (hx : Ext ρ h w ρ1 h1 w1) (hf : ∀ x l, ρ x = some l → num x < num h.next) (hE : EndR P ρ1 h1 w1 r e w') : EndR P ρ h w r e w' := by
  cases r with
  | ret v h' => obtain ⟨ρ', u, k1, k2, k3, k4⟩ := hE; exact ⟨ρ', u, k1, k2, k3, hx.trans k4 hf⟩
  | pan v h' => obtain ⟨ρ', u, k1, k2, k3, k4⟩ := hE; exact ⟨ρ', u, k1, k2, k3, hx.trans k4 hf⟩

theorem callS_sound {F : FuncId → Option SFunc} {S : FuncId → Option (List SV → H → Option CR)} (hF : TabOK P F) (hS : SumOK P S) (hX : SoundX P X) (hD : DrawOK P X) {lf : Nat} {f : FuncId} {args : List SV} {r : CR}
    (hrun : callS F S X lf f args h = some r) (hr : HR P ρ h w) {us : Array Value} (hu : VRs ρ args us.toList) :
    (callFunc f us).run P w = .ok (.enter f us) w ∧ Calls P f us w (EndR P ρ h w r) := by
  unfold callS at hrun
  split at hrun
  · rename_i r' hsr
    cases hrun
    unfold trySum at hsr
    split at hsr
    · rename_i sm hsm
      exact hS hsm hsr hr hu
    · cases hsr
  · -- the body, in general
    have key : ∀ res e s' p, runBody F X lf f args .non h = some (res, e, s') → leave (dcall F X lf) res s'.dfs p s' = some r → (e = .norm ∧ p = .non ∨ e = .ret ∧ p = .non ∨ ∃ v, e = .pan v ∧ p = .pan v false) →
        (callFunc f us).run P w = .ok (.enter f us) w ∧ Calls P f us w (EndR P ρ h w r) := by
      intro res e s' p hb hlv hep
      refine ⟨?_, fun cs => ?_⟩
      · obtain ⟨fn, nt, g, hf, hres, hcf, _⟩ := body_sound (kd := .normal) (cs := []) hF hX hD hb hr hu ⟨rfl, .inl rfl⟩
        exact hcf
      · obtain ⟨fn, nt, g, hf, hres, hcf, ρ1, cs1, a1, w1, E, q1, q2, q3, q4, q5⟩ := body_sound (kd := .normal) (cs := cs) hF hX hD hb hr hu ⟨rfl, .inl rfl⟩
        have hcs : cs1 = cs := by
          rcases q4 with ⟨_, e2⟩ | ⟨v, c, rest, u, e1, _⟩
          · exact e2
          · cases e1
        subst hcs
        obtain ⟨fr, m1, m2, m3, m4, m5, m6⟩ : ∃ fr : Frame, Steps P (lone (Frame.enter P f us .normal) cs1 w) (lone fr cs1 w1) ∧ fr.tmps = a1.tmps ∧ fr.defers = a1.defers ∧ fr.fn = f ∧ fr.kind = .normal ∧ ModeR ρ1 p fr.mode := by
          rcases hep with ⟨rfl, rfl⟩ | ⟨rfl, rfl⟩ | ⟨v, rfl, rfl⟩
          · cases q1
            exact ⟨_, Steps.trans q5 (.one (st_end_returning rfl)), rfl, rfl, rfl, rfl, rfl⟩
          · cases q1
            obtain ⟨k1, q5⟩ := q5
            exact ⟨_, Steps.trans q5 (.one (st_ret_returning rfl)), rfl, rfl, rfl, rfl, rfl⟩
          · cases q1 with
            | pan _ u hv =>
              obtain ⟨k1, q5⟩ := q5
              exact ⟨_, q5, rfl, rfl, rfl, rfl, rfl, u, rfl, hv⟩
        obtain ⟨e', w', fr', h1, h2, h3, h4⟩ := leave_sound hF hX hD hres s'.dfs p s' r ρ1 w1 fr cs1 hlv ⟨by rw [m2]; exact q2.tr, by rw [m3]; exact q2.dr, m6, q2.hr⟩ m5 (by rw [m4]; exact hf)
        have hR : EndR P ρ h w r e' w' := EndR.trans q3 hr.fresh h1
        exact ⟨e', w', fr', hR, hR.comes (Steps.trans m1 h2), h3.trans m4, h4⟩
    split at hrun
    · rename_i res s' hb; exact key res .norm s' .non hb hrun (.inl ⟨rfl, rfl⟩)
    · rename_i res s' hb; exact key res .ret s' .non hb hrun (.inr (.inl ⟨rfl, rfl⟩))
    · rename_i res v s' hb; exact key res (.pan v) s' (.pan v false) hb hrun (.inr (.inr ⟨v, rfl, rfl⟩))
    · cases hrun

/-! Rounds. -/
section
variable {b : Frame} {a : Act} {cs : List Frame} {k : List Item} {l : Nat}

theorem run_getLoop {lo : Loop} (hl : w.heap[l]? = some (.loop lo)) : (Instr.getLoop l).run P w = .ok lo w := by
  simp [Instr.getLoop, run_getObj hl (by simp)]

theorem st_beginRound {lo : Loop} (hb : b.roundOf = some l) (hl : w.heap[l]? = some (.loop lo)) (hs : lo.state = .ready) :
    step P (lone (fr_ b a (.beginRound :: k)) cs w) = .next (lone (fr_ b a k) cs (wput w l (.loop { lo with state := .busy }))) := by
  have h2 : ∀ O, (setObj l O).run P w = .ok () (wput w l O) := fun O => run_setObj O hl (by simp)
  have h1 : (Instr.beginRound l).run P w = .ok () (wput w l (.loop { lo with state := .busy })) := by
    unfold Instr.beginRound
    simp [run_getLoop hl, h2, hs]
  refine step_lone_go ?_
  simp [stepG, stepG.exec, fr_, hb, stepG.apply, h1, Frame.finish]

/-- where a round ends. -/
theorem st_endRound {lo : Loop} {c : Frame} {todo : List Item} {jump : Option Code} (hb : b.roundOf = some l) (hk : b.kind = .normal) (hl : w.heap[l]? = some (.loop lo))
    (ht : (todo = [] ∧ jump = none) ∨ (∃ k, todo = .code .ret :: k ∧ jump = some .ret) ∨ (∃ n k, todo = .code (.exit n) :: k ∧ jump = some (.exit n) ∧ exitTo n k = none)) :
    step P (lone (fr_ b a todo) (c :: cs) w) = .next (lone (c.finish (.bool jump.isNone)) cs (wput w l (.loop { lo with state := if jump.isNone then .ready else .done, pending := jump }))) := by
  have h2 : ∀ O, (setObj l O).run P w = .ok () (wput w l O) := fun O => run_setObj O hl (by simp)
  have h1 : (Instr.endRound l jump).run P w = .ok (.bool jump.isNone) (wput w l (.loop { lo with state := if jump.isNone then .ready else .done, pending := jump })) := by
    unfold Instr.endRound
    simp [run_getLoop hl, h2]
  refine step_lone_go ?_
  rcases ht with ⟨rfl, rfl⟩ | ⟨k, rfl, rfl⟩ | ⟨n, k, rfl, rfl, hn⟩
  · simp only [stepG, stepG.exec, fr_, hb, Sem.runT_eq, h1, GStep.bare_after, doReturn, hk]; rfl
  · simp only [stepG, stepG.exec, fr_, hb, Sem.runT_eq, h1, GStep.bare_after, doReturn, hk]; rfl
  · simp only [stepG, stepG.exec, fr_, hn, hb, Option.elim, Sem.runT_eq, h1, GStep.bare_after, doReturn, hk]; rfl

end

theorem HR.putLoop (hr : HR P ρ h w) {p : Pos} {o o' : LoopO} {loc : Loc} (hb : h.at_ p = some (.loop o)) (hρ : ρ p = some loc) {lo' : Loop} (hl : LoopR P ρ o' lo') :
    HR P ρ (h.put p (.loop o')) (wput w loc.rb (.loop lo')) ∧ Ext ρ h w ρ (h.put p (.loop o')) (wput w loc.rb (.loop lo')) := by
  have hlt := hr.lt p loc hρ
  refine hr.put hb hρ (by simp) (by simp) _ ⟨lo', wput_same hlt, hl⟩ ?_
  intro x ver i lx hxb hx hlx
  obtain ⟨h0, lm, si, se, st, h1, h2, h3⟩ := hr.obj x _ lx hx hlx
  have hne : lx.rb ≠ loc.rb := by
    intro e
    obtain ⟨x1, n1, g1, x2, n2, g2, fm, e1, e2⟩ := hr.excl x p _ _ lx loc hx hb hlx hρ hxb e
    cases e1
  refine ⟨h0, lm, si, se, st, h1, (wput_other hne).trans h2, fun es2 v2 he => ?_⟩
  rw [put_at, if_pos rfl] at he; cases he

theorem zip_fold_array {β : Type} (ps : Array Tmp) (us : Array Value) (f : β → Tmp × Value → β) (z : β) :
    (ps.zip us).foldl f z = (ps.toList.zip us.toList).foldl f z := by
  rw [← Array.foldl_toList, Array.toList_zip]

theorem roundS_sound {lf : Nat} (hX : SoundX P X) (hD : DrawOK P X) {p : Pos} {args : List SV} {v : SV} {h' : H} {loc : Loc} {us : Array Value} (hrun : roundS X lf p args h = some (v, h')) (hr : HR P ρ h w) (hρ : ρ p = some loc) (hu : VRs ρ args us.toList) :
    ∃ fn tmps as bd, (Instr.yield loc.rb us).run P w = .ok (.round loc.rb fn tmps as bd) w ∧ Runs P ρ h w (Frame.round loc.rb fn tmps as bd .normal) (.ret v h') := by
  unfold roundS at hrun
  split at hrun
  case h_2 => cases hrun
  rename_i o ho
  obtain ⟨lo, hlo, hlr⟩ := hr.obj _ _ _ ho hρ
  obtain ⟨nt, g, hca, hcb, hcp, hlt, htr⟩ := hlr.code
  split at hrun
  case h_2 => cases hrun
  rename_i t ht
  rw [hcp] at ht
  obtain ⟨hlen, htr1⟩ := bindT_sound lo.params.toList args us.toList o.tm t lo.tmps ht hu hlt htr
  have hsz : us.size = lo.params.size := by simpa using hlen.symm
  refine ⟨lo.fn, (lo.params.zip us).foldl (fun tmps x => tmps.setIfInBounds x.1 x.2) lo.tmps, lo.assign, lo.body, ?_, fun c cs => ?_⟩
  · simp [Instr.yield, run_getLoop hlo, hsz]
  · rw [zip_fold_array]
    generalize htm : (lo.params.toList.zip us.toList).foldl (fun tmps (x : Tmp × Value) => tmps.setIfInBounds x.1 x.2) lo.tmps = tmps at htr1
    have hfr : Frame.round loc.rb lo.fn tmps lo.assign lo.body .normal = fr_ (base lo.fn .normal (some loc.rb)) ⟨tmps, []⟩ [.code lo.assign, .beginRound, .code lo.body] := rfl
    rw [hfr]
    split at hrun
    case h_2 => cases hrun
    rename_i s1 hassign
    rw [hca] at hassign
    have hE := exec_sound (b := base lo.fn .normal (some loc.rb)) hX hD (range_ok hX) lf lo.assign [.beginRound, .code lo.body] ρ (c :: cs) ⟨tmps, []⟩ w ⟨t, [], .rnd, h⟩ s1 .norm hassign ⟨htr1, .nil, by simp [PR, base], hr⟩
    obtain ⟨ρ1, cs1, a1, w1, q1, q2, q3, q4⟩ := hE.norm_inv
    have hcs1 : cs1 = c :: cs ∧ s1.pan = .rnd := by
      rcases q3 with ⟨e1, e2⟩ | ⟨_, _, _, _, e1, _⟩
      · exact ⟨e2, e1⟩
      · cases e1
    obtain ⟨rfl, hpan1⟩ := hcs1
    split at hrun
    case h_2 => cases hrun
    rename_i o1 ho1
    have hρ1 := q2.le _ _ hρ
    obtain ⟨lo1, hlo1, hlr1⟩ := q1.hr.obj _ _ _ ho1 hρ1
    split at hrun
    case h_2 => cases hrun
    rename_i hst1
    have hb1 := st_beginRound (P := P) (b := base lo.fn .normal (some loc.rb)) (a := a1) (cs := c :: cs) (k := [.code lo.body]) rfl hlo1 (hlr1.state.trans hst1)
    obtain ⟨d1, d2⟩ := q1.hr.putLoop (o' := { o1 with state := .busy }) (lo' := { lo1 with state := .busy }) ho1 hρ1 ⟨rfl, hlr1.pend, hlr1.code⟩
    -- the body
    have key : ∀ (j : Option Jump) (jump : Option Code) (s2 : St) (e : Ex), JR j jump → exec X lf o.body ⟨s1.tm, s1.dfs, s1.pan, s1.h.put p (.loop { o1 with state := .busy })⟩ = some (e, s2) → finR p j s2 = some (v, h') →
        (e = .norm ∧ jump = none ∨ e = .ret ∧ jump = some .ret ∨ ∃ n, e = .exit n ∧ jump = some (.exit n)) →
        ∃ ρ' w' u, VR ρ' v u ∧ HR P ρ' h' w' ∧ Ext ρ h w ρ' h' w' ∧ Steps P (lone (fr_ (base lo.fn .normal (some loc.rb)) ⟨tmps, []⟩ [.code lo.assign, .beginRound, .code lo.body]) (c :: cs) w) (lone (c.finish u) cs w') := by
      intro j jump s2 e hj hbody hfin hej
      rw [hcb] at hbody
      have hE2 := exec_sound (b := base lo.fn .normal (some loc.rb)) hX hD (range_ok hX) lf lo.body [] ρ1 (c :: cs) a1 _ ⟨s1.tm, s1.dfs, s1.pan, s1.h.put p (.loop { o1 with state := .busy })⟩ s2 e hbody ⟨q1.tr, q1.dr, q1.pr, d1⟩
      obtain ⟨ρ2, cs2, a2, w2, E, r1, r2, r3, r4, r5⟩ := hE2
      have hcs2 : cs2 = c :: cs := by
        rcases r4 with ⟨_, e2⟩ | ⟨_, _, _, _, e1, _⟩
        · exact e2
        · simp only at e1; rw [hpan1] at e1; cases e1
      subst hcs2
      unfold finR at hfin
      split at hfin
      case h_2 => cases hfin
      rename_i o2 hdf ho2
      simp only [Option.some.injEq, Prod.mk.injEq] at hfin
      obtain ⟨hv', hh'⟩ := hfin
      have hρ2 := r3.le _ _ hρ1
      obtain ⟨lo2, hlo2, hlr2⟩ := r2.hr.obj _ _ _ ho2 hρ2
      have hx := (q2.trans d2 hr.fresh).trans r3 hr.fresh
      have htodo : ∃ todo, Steps P (lone (fr_ (base lo.fn .normal (some loc.rb)) a1 [.code lo.body]) (c :: cs) (wput w1 loc.rb (.loop { lo1 with state := .busy }))) (lone (fr_ (base lo.fn .normal (some loc.rb)) a2 todo) (c :: cs) w2) ∧
          ((todo = [] ∧ jump = none) ∨ (∃ k, todo = .code .ret :: k ∧ jump = some .ret) ∨ (∃ n k, todo = .code (.exit n) :: k ∧ jump = some (.exit n) ∧ exitTo n k = none)) := by
        rcases hej with ⟨rfl, rfl⟩ | ⟨rfl, rfl⟩ | ⟨n, rfl, rfl⟩
        · cases r1; exact ⟨[], r5, .inl ⟨rfl, rfl⟩⟩
        · cases r1; obtain ⟨k1, r5⟩ := r5; exact ⟨_, r5, .inr (.inl ⟨k1, rfl, rfl⟩)⟩
        · cases r1; obtain ⟨k1, r6, r5⟩ := r5; exact ⟨_, r5, .inr (.inr ⟨n, k1, rfl, rfl, r6⟩)⟩
      obtain ⟨todo, hsteps, htd⟩ := htodo
      have hend := st_endRound (P := P) (a := a2) (cs := cs) (c := c) (b := base lo.fn .normal (some loc.rb)) rfl rfl hlo2 htd
      obtain ⟨f1, f2⟩ := r2.hr.putLoop (o' := { o2 with state := (fun j : Option Jump => match j with | none => LoopState.ready | some _ => .done) j, pending := j }) (lo' := { lo2 with state := if jump.isNone then .ready else .done, pending := jump }) ho2 hρ2
        ⟨by cases hj <;> rfl, hj, hlr2.code⟩
      refine ⟨ρ2, _, .bool jump.isNone, ?_, ?_, ?_, q4.trans (.head hb1 (hsteps.trans (.one hend)))⟩
      · rw [← hv']; cases hj <;> exact .bool _
      · rw [← hh']; exact f1
      · rw [← hh']; exact hx.trans f2 hr.fresh
    split at hrun
    · rename_i s2 hb; exact key none none s2 .norm .none hb hrun (.inl ⟨rfl, rfl⟩)
    · rename_i n s2 hb; exact key _ _ s2 (.exit n) (.exit n) hb hrun (.inr (.inr ⟨n, rfl, rfl⟩))
    · rename_i s2 hb; exact key _ _ s2 .ret .ret hb hrun (.inr (.inl ⟨rfl, rfl⟩))
    · cases hrun

/-- The whole run. -/
theorem ctx_sound {F : FuncId → Option SFunc} {M : TypeId → String → Option (FuncId × Option (Nat × Bool))} {S : FuncId → Option (List SV → H → Option CR)} (hF : TabOK P F) (hM : ∀ t n r, M t n = some r → methO P t n = some r) (hS : SumOK P S) (hD : ∀ X, SoundX P X → DrawOK P X) (lf : Nat) :
    ∀ n, SoundX P (ctx F M S lf n)
  | 0 => ⟨fun h => by simp [ctx] at h, fun h => by simp [ctx] at h, fun h => hM _ _ _ h⟩
  | n + 1 =>
    have ih := ctx_sound hF hM hS hD lf n
    ⟨fun h hr hu => callS_sound hF hS ih (hD _ ih) h hr hu, fun h hr hρ hu => roundS_sound ih (hD _ ih) h hr hρ hu, fun h => hM _ _ _ h⟩

end Go.Sh

/-
  Drawn regions: what hangs on the text alone.
-/
namespace Go.Sh
set_option linter.unusedVariables false
variable {P : Program}

theorem testBit_lor (a b i : Nat) : Nat.testBit (Nat.lor a b) i = (Nat.testBit a i || Nat.testBit b i) := Nat.testBit_or a b i
theorem testBit_land (a b i : Nat) : Nat.testBit (Nat.land a b) i = (Nat.testBit a i && Nat.testBit b i) := Nat.testBit_and a b i
theorem testBit_one (i j : Nat) : Nat.testBit (Nat.shiftLeft 1 i) j = decide (j = i) := by
  show Nat.testBit (1 <<< i) j = _
  rw [Nat.one_shiftLeft, Nat.testBit_two_pow]
  by_cases h : i = j
  · subst h; simp
  · simp [h]; exact fun e => h e.symm

theorem bitsOf_spec (l : List Nat) (i : Nat) : Nat.testBit (bitsOf l) i = true ↔ i ∈ l := by
  induction l with
  | nil => simp [bitsOf]
  | cons j l ih => rw [bitsOf, testBit_lor, testBit_one, Bool.or_eq_true, ih, List.mem_cons]; simp

theorem sub_spec {p d : Nat} (h : Nat.beq (Nat.land p d) p = true) {j : Nat} (hj : Nat.testBit p j = true) : Nat.testBit d j = true := by
  have h := Nat.eq_of_beq_eq_true h
  have : Nat.testBit (Nat.land p d) j = true := by rw [h]; exact hj
  rw [testBit_land, Bool.and_eq_true] at this
  exact this.2

theorem edgeBits_spec {pres : List Nat} {o : Oper} {j : Nat} (h : Nat.testBit (edgeBits pres o) j = true) : ∃ e ∈ o.after.toList, Region.binds .any e = true ∧ (e.on = j ∨ Nat.testBit (preOf pres e.on) j = true) := by
  have key : ∀ (l : List Edge) (s : Nat), Nat.testBit (l.foldl (fun s e => match Region.binds .any e with | true => Nat.lor s (Nat.lor (Nat.shiftLeft 1 e.on) ((nthL pres e.on).getD 0)) | false => s) s) j = true →
      Nat.testBit s j = true ∨ ∃ e ∈ l, Region.binds .any e = true ∧ (e.on = j ∨ Nat.testBit (preOf pres e.on) j = true) := by
    intro l
    induction l with
    | nil => intro s h; exact .inl h
    | cons e l ih =>
      intro s h
      rw [List.foldl_cons] at h
      rcases ih _ h with h1 | ⟨e', h1, h2⟩
      · cases hb : Region.binds .any e with
        | false => rw [hb] at h1; exact .inl h1
        | true =>
          rw [hb] at h1
          simp only [testBit_lor, testBit_one, Bool.or_eq_true, decide_eq_true_eq] at h1
          rcases h1 with h1 | h1 | h1
          · exact .inl h1
          · exact .inr ⟨e, by simp, hb, .inl h1.symm⟩
          · exact .inr ⟨e, by simp, hb, .inr h1⟩
      · exact .inr ⟨e', by simp [h1], h2⟩
  rcases key _ _ h with h1 | h1
  · simp at h1
  · exact h1

theorem edgesOk_spec {pres : List Nat} : ∀ {l : List Oper} {i : Nat}, edgesOk pres l i = true → ∀ (k : Nat) (o : Oper), l[k]? = some o →
    (∀ e ∈ o.after.toList, Region.binds .any e = true → e.on < i + k) ∧ preOf pres (i + k) = edgeBits pres o
  | [], i, h, k, o, hk => by simp at hk
  | x :: l, i, h, k, o, hk => by
    simp only [edgesOk, Bool.and_eq_true] at h
    obtain ⟨⟨h1, h2⟩, h3⟩ := h
    cases k with
    | zero =>
      simp only [List.getElem?_cons_zero, Option.some.injEq] at hk; subst hk
      refine ⟨fun e he hb => ?_, Nat.eq_of_beq_eq_true h2⟩
      have := List.all_eq_true.1 h1 e he
      rw [hb] at this
      simpa [Nat.blt_eq] using this
    | succ k =>
      simp only [List.getElem?_cons_succ] at hk
      have := edgesOk_spec h3 k o hk
      have e : i.succ + k = i + (k + 1) := by omega
      rw [e] at this; exact this

theorem pre_closed {pres : List Nat} {ops : Array Oper} (he : edgesOk pres ops.toList 0 = true) (D : Nat → Prop) (hD : ∀ i o, ops[i]? = some o → D i → ∀ e ∈ o.after.toList, Region.binds .any e = true → D e.on) :
    ∀ (n i : Nat), i < n → ∀ o, ops[i]? = some o → (∀ e ∈ o.after.toList, Region.binds .any e = true → D e.on) → ∀ j, Nat.testBit (preOf pres i) j = true → D j
  | 0, i, hi, o, ho, hd, j, hj => by omega
  | n + 1, i, hi, o, ho, hd, j, hj => by
    have hs := edgesOk_spec he i o (by simpa using ho)
    rw [Nat.zero_add] at hs
    rw [hs.2] at hj
    obtain ⟨e, hm, hb, h1⟩ := edgeBits_spec hj
    rcases h1 with rfl | h1
    · exact hd e hm hb
    · have hlt := hs.1 e hm hb
      have hisz : i < ops.size := by
        rcases Nat.lt_or_ge i ops.size with h | h
        · exact h
        · simp [Array.getElem?_eq_none h] at ho
      have hoe : ops[e.on]? = some ops[e.on] := Array.getElem?_eq_getElem (by omega)
      exact pre_closed he D hD n e.on (by omega) _ hoe (hD e.on _ hoe (hd e hm hb)) j h1

/-- the order, the latest first. -/
def OrdR (pres : List Nat) (acts n : Nat) : List Nat → Prop
  | [] => True
  | i :: done => OrdR pres acts n done ∧ i < n ∧ i ∉ done ∧ (∀ j, Nat.testBit (preOf pres i) j = true → j ∈ done) ∧ (∀ a ∈ done, Nat.testBit acts a = true → Nat.testBit (preOf pres i) a = true)

theorem ordOk_spec {pres : List Nat} {acts n : Nat} : ∀ (ord done : List Nat), ordOk pres acts n done ord = true → OrdR pres acts n done → OrdR pres acts n (ord.reverse ++ done)
  | [], done, h, hd => by simpa using hd
  | i :: r, done, h, hd => by
    simp only [ordOk, Bool.and_eq_true] at h
    obtain ⟨⟨⟨⟨h1, h2⟩, h3⟩, h4⟩, h5⟩ := h
    have := ordOk_spec r (i :: done) h5 ⟨hd, by simpa [Nat.blt_eq] using h1, ?_, ?_, ?_⟩
    · simpa using this
    · intro hm
      rw [← bitsOf_spec] at hm
      rw [hm] at h2; simp at h2
    · intro j hj
      rw [← bitsOf_spec]
      exact sub_spec h3 hj
    · intro a ha hac
      have := List.all_eq_true.1 h4 a ha
      simpa [hac] using this

theorem tmpsOkOne_spec {pres : List Nat} {i : Nat} {t : Tmp} : ∀ {l : List Oper} {j : Nat}, tmpsOkOne pres i t l j = true → ∀ (k : Nat) (o : Oper), l[k]? = some o →
    if i = j + k then t ∉ tmpsOf o else o.dst ≠ some t ∧ (t ∈ tmpsOf o → Nat.testBit (preOf pres (j + k)) i = true ∨ Nat.testBit (preOf pres i) (j + k) = true)
  | [], j, h, k, o, hk => by simp at hk
  | x :: l, j, h, k, o, hk => by
    simp only [tmpsOkOne, Bool.and_eq_true] at h
    obtain ⟨h1, h2⟩ := h
    cases k with
    | zero =>
      simp only [List.getElem?_cons_zero, Option.some.injEq] at hk; subst hk
      rw [Nat.add_zero]
      by_cases hij : i = j
      · rw [if_pos hij]
        rw [beq_true hij] at h1
        simpa using h1
      · rw [if_neg hij]
        rw [beq_false hij] at h1
        simp only [cond_false, Bool.and_eq_true, Bool.or_eq_true] at h1
        refine ⟨?_, ?_⟩
        · intro e
          rw [e] at h1
          simp at h1
        · intro hm
          rcases h1.2 with (h3 | h3) | h3
          · simp at h3; exact absurd hm h3
          · exact .inl h3
          · exact .inr h3
    | succ k =>
      simp only [List.getElem?_cons_succ] at hk
      have := tmpsOkOne_spec h2 k o hk
      have e : j.succ + k = j + (k + 1) := by omega
      rw [e] at this; exact this

theorem tmpsOk_spec {pres : List Nat} {all : List Oper} : ∀ {l : List Oper} {i : Nat}, tmpsOk pres all l i = true → ∀ (k : Nat) (o : Oper), l[k]? = some o →
    (∀ t, o.dst = some t → tmpsOkOne pres (i + k) t all 0 = true) ∧ (∀ j b, o.guard = some (j, b) → Nat.testBit (preOf pres (i + k)) j = true)
  | [], i, h, k, o, hk => by simp at hk
  | x :: l, i, h, k, o, hk => by
    simp only [tmpsOk, Bool.and_eq_true] at h
    obtain ⟨⟨h1, h2⟩, h3⟩ := h
    cases k with
    | zero =>
      simp only [List.getElem?_cons_zero, Option.some.injEq] at hk; subst hk
      refine ⟨fun t ht => ?_, fun j b hg => ?_⟩
      · rw [ht] at h1; exact h1
      · rw [hg] at h2; exact h2
    | succ k =>
      simp only [List.getElem?_cons_succ] at hk
      have := tmpsOk_spec h3 k o hk
      have e : i.succ + k = i + (k + 1) := by omega
      rw [e] at this; exact this

/-- for one who writes a temporary, and any other operation. -/
theorem writer_spec {pres : List Nat} {ops : Array Oper} (h : tmpsOk pres ops.toList ops.toList 0 = true) {i j : Nat} {o q : Oper} {t : Tmp} (hi : ops[i]? = some o) (ht : o.dst = some t) (hj : ops[j]? = some q) :
    if i = j then t ∉ tmpsOf q else q.dst ≠ some t ∧ (t ∈ tmpsOf q → Nat.testBit (preOf pres j) i = true ∨ Nat.testBit (preOf pres i) j = true) := by
  have h1 := (tmpsOk_spec h i o (by simpa using hi)).1 t ht
  have h2 := tmpsOkOne_spec h1 j q (by simpa using hj)
  simpa using h2

theorem guard_spec {pres : List Nat} {ops : Array Oper} (h : tmpsOk pres ops.toList ops.toList 0 = true) {i j : Nat} {b : Bool} {o : Oper} (hi : ops[i]? = some o) (hg : o.guard = some (j, b)) : Nat.testBit (preOf pres i) j = true := by
  have := (tmpsOk_spec h i o (by simpa using hi)).2 j b hg
  simpa using this

theorem mem_tmpsOf {o : Oper} {t : Tmp} : t ∈ tmpsOf o ↔ .tmp t ∈ o.op.operands.toList := by
  unfold tmpsOf
  rw [List.mem_filterMap]
  constructor
  · rintro ⟨x, h1, h2⟩
    cases x <;> simp at h2
    subst h2; exact h1
  · intro h; exact ⟨_, h, rfl⟩

/-! The operations hang on their own operands alone. -/
section
variable {od od' : Operand → Option Od}

theorem mapO_congr {l : List Operand} (h : ∀ x ∈ l, od x = od' x) : mapO od l = mapO od' l := by
  induction l with
  | nil => rfl
  | cons x l ih =>
    simp only [mapO]
    rw [h x (by simp), ih (fun y hy => h y (by simp [hy]))]

theorem optO_congr {x : Option Operand} (h : ∀ y, x = some y → od y = od' y) : optO od x = optO od' x := by
  cases x with
  | none => rfl
  | some y => simp only [optO]; rw [h y rfl]

theorem structParts_congr {places : List (Nat × Nat)} {l : List (Nat × Operand)} (h : ∀ x ∈ l, od x.2 = od' x.2) : structParts od places l = structParts od' places l := by
  induction l with
  | nil => rfl
  | cons x l ih =>
    obtain ⟨i, x⟩ := x
    simp only [structParts]
    rw [h (i, x) (by simp), ih (fun y hy => h y (by simp [hy]))]

theorem arrayParts_congr {sz : Nat} {l : List (Nat × Operand)} (h : ∀ x ∈ l, od x.2 = od' x.2) : arrayParts od sz l = arrayParts od' sz l := by
  induction l with
  | nil => rfl
  | cons x l ih =>
    obtain ⟨i, x⟩ := x
    simp only [arrayParts]
    rw [h (i, x) (by simp), ih (fun y hy => h y (by simp [hy]))]

theorem builtinO_congr {b : Builtin} {ts : List TypeId} {args : List Operand} (h : ∀ x ∈ args, od x = od' x) : builtinO P od b ts args = builtinO P od' b ts args := by
  unfold builtinO
  split <;> first
    | rfl
    | (simp at h; simp only [h]; done)
    | (rename_i x r; rw [h x (by simp), mapO_congr (fun y hy => h y (by simp [hy]))]; done)

theorem opO_congr {o : Op} (h : ∀ x ∈ o.operands.toList, od x = od' x) : opO P od o = opO P od' o := by
  cases o
  case call c =>
    have hargs : ∀ x ∈ c.args.toList, od x = od' x := fun x hx => h x (by simp [Op.operands, Call.operands]; exact .inr (by simpa using hx))
    simp only [opO]
    split
    · exact builtinO_congr hargs
    · rw [mapO_congr hargs]
    · rename_i f hnf hc
      have hf : od f = od' f := h f (by simp [Op.operands, Call.operands, hc])
      rw [hf, mapO_congr hargs]
    · rename_i r n hc
      have hf : od r = od' r := h r (by simp [Op.operands, Call.operands, hc])
      rw [hf, mapO_congr hargs]
  case defer c =>
    have hargs : ∀ x ∈ c.args.toList, od x = od' x := fun x hx => h x (by simp [Op.operands, Call.operands]; exact .inr (by simpa using hx))
    simp only [opO]
    split
    · rename_i f hc
      have hf : od f = od' f := h f (by simp [Op.operands, Call.operands, hc])
      rw [hf, mapO_congr hargs]
    · rfl
  case build t ps =>
    have hp : ∀ x ∈ ps.toList, od x.2 = od' x.2 := fun x hx => h x.2 (by simp [Op.operands]; exact ⟨x.1, by simpa using hx⟩)
    simp only [opO, structParts_congr hp, arrayParts_congr hp]
  case buildSlice t n ps =>
    have hp : ∀ x ∈ ps.toList, od x.2 = od' x.2 := fun x hx => h x.2 (by simp [Op.operands]; exact ⟨x.1, by simpa using hx⟩)
    simp only [opO, arrayParts_congr hp]
  case makeFunc fn a b =>
    have h1 : ∀ x ∈ a.toList, od x = od' x := fun x hx => h x (by simp [Op.operands]; exact .inl (by simpa using hx))
    have h2 : ∀ x ∈ b.toList, od x = od' x := fun x hx => h x (by simp [Op.operands]; exact .inr (by simpa using hx))
    simp only [opO, mapO_congr h1, mapO_congr h2]
  case slice t x l hi m =>
    have h0 : od x = od' x := h x (by simp [Op.operands])
    have h1 : optO od l = optO od' l := optO_congr (fun y hy => h y (by subst hy; simp [Op.operands]))
    have h2 : optO od hi = optO od' hi := optO_congr (fun y hy => h y (by subst hy; simp [Op.operands]))
    have h3 : optO od m = optO od' m := optO_congr (fun y hy => h y (by subst hy; simp [Op.operands]))
    simp only [opO, h0, h1, h2, h3]
  case next x b =>
    have h0 : od x = od' x := h x (by simp [Op.operands])
    cases b <;> simp only [opO, h0]
  case select => rfl
  case go => rfl
  case makeMap t r =>
    cases r with
    | none => rfl
    | some x => cases x <;> first | rfl | (rename_i v; cases v <;> rfl)
  all_goals first
    | rfl
    | (simp [Op.operands] at h; simp only [opO, h]; done)
end

end Go.Sh

/-
  Drawn regions: what the kinds of operations do to the shadow's memory.
-/
namespace Go.Sh
set_option linter.unusedVariables false
variable {P : Program} {X : Ctx} {ev : Od → SV} {s : SOp} {h h' : H} {v : SV}

theorem kind0 (hk : kindOf s = 0) (he : evS s X ev h = some (.val v h')) : h' = h ∧ ∀ h2, evS s X ev h2 = some (.val v h2) := by
  cases s <;> first
    | (exfalso; simp [kindOf] at hk; done)
    | (clear hk; simp only [evS, oBin, cond_eq_ite] at he ⊢; (repeat' split at he) <;> first
        | (cases he; done)
        | (obtain ⟨rfl, rfl⟩ := val_inj he; refine ⟨rfl, fun h2 => ?_⟩; simp_all; done))

theorem kind1 (hk : kindOf s = 1) (he : evS s X ev h = some (.val v h')) : h' = h := by
  cases s <;> first
    | (exfalso; simp [kindOf] at hk; done)
    | (clear hk; simp only [evS, oSlc, cond_eq_ite] at he; (repeat' split at he) <;> first
        | (cases he; done)
        | (obtain ⟨rfl, rfl⟩ := val_inj he; rfl))

/-- a new object. -/
def H.add (h : H) (o : SObj) : H := ⟨h.next.succ, h.t.put (some o) h.next, h.fams⟩

theorem kind2 (hk : kindOf s = 2) (he : evS s X ev h = some (.val v h')) :
    ∃ o, ((∃ x n g fam, o = .row x n g false fam) ∨ (∃ es ver, o = .map es ver)) ∧ h' = h.add o ∧ (∀ ρ u, VR ρ v u → ∃ l, ρ h.next = some l) ∧ ∀ h2, h2.next = h.next → evS s X ev h2 = some (.val v (h2.add o)) := by
  have hp : ∀ (ρ : Rho) b o u, VR ρ (.ptr b o) u → ∃ l, ρ b = some l := fun ρ b o u hv => by cases hv with | ptr _ _ l h => exact ⟨l, h⟩
  have hs : ∀ (ρ : Rho) b o n c u, VR ρ (.slc b o n c) u → ∃ l, ρ b = some l := fun ρ b o n c u hv => by cases hv with | slc _ _ _ _ _ l h => exact ⟨l, h⟩
  have hm : ∀ (ρ : Rho) b u, VR ρ (.map b) u → ∃ l, ρ b = some l := fun ρ b u hv => by cases hv with | map _ l h => exact ⟨l, h⟩
  cases s <;> first
    | (exfalso; simp [kindOf] at hk; done)
    | (clear hk; simp only [evS, cond_eq_ite] at he ⊢; (repeat' split at he) <;> first
        | (cases he; done)
        | (obtain ⟨rfl, rfl⟩ := val_inj he
           refine ⟨_, ?_, rfl, ?_, fun h2 e => ?_⟩
           · first | exact .inl ⟨_, _, _, _, rfl⟩ | exact .inr ⟨_, _, rfl⟩
           · intro ρ u hv; first | exact hp _ _ _ _ hv | exact hs _ _ _ _ _ _ hv | exact hm _ _ _ hv
           · simp_all [H.newRow, H.new, H.add]; done))

end Go.Sh

/-
  Drawn regions: what the shadow's run leaves; memory that grows.
-/
namespace Go.Sh
set_option linter.unusedVariables false
variable {P : Program} {ρ : Rho} {X : Ctx} {w w1 : World}

def Plain (o : SObj) : Prop := (∃ x n g fam, o = .row x n g false fam) ∨ (∃ es ver, o = .map es ver)

structure Grows (h h' : H) : Prop where
  next : num h.next ≤ num h'.next
  old : ∀ b, num b < num h.next → h'.at_ b = h.at_ b
  fams : h'.fams = h.fams
  fresh : (∀ b o, h.at_ b = some o → num b < num h.next) → ∀ b o, h'.at_ b = some o → num b < num h'.next
  plain : ∀ b o, num h.next ≤ num b → h'.at_ b = some o → (∀ b o, h.at_ b = some o → num b < num h.next) → Plain o

theorem Grows.refl (h : H) : Grows h h := ⟨Nat.le_refl _, fun _ _ => rfl, rfl, fun hf => hf, fun b o hb ho hf => absurd (hf b o ho) (by omega)⟩

theorem Grows.trans {h1 h2 h3 : H} (a : Grows h1 h2) (b : Grows h2 h3) : Grows h1 h3 where
  next := Nat.le_trans a.next b.next
  old := fun x hx => (b.old x (Nat.lt_of_lt_of_le hx a.next)).trans (a.old x hx)
  fams := b.fams.trans a.fams
  fresh := fun hf => b.fresh (a.fresh hf)
  plain := fun x o hx ho hf => by
    rcases Nat.lt_or_ge (num x) (num h2.next) with h | h
    · rw [b.old x h] at ho; exact a.plain x o hx ho hf
    · exact b.plain x o h ho (a.fresh hf)

theorem add_at (h : H) (o : SObj) (x : Pos) : (h.add o).at_ x = if x = h.next then some o else h.at_ x := T.get_put _ _ _ _

theorem Grows.add (h : H) {o : SObj} (ho : Plain o) : Grows h (h.add o) where
  next := by have := num_succ h.next; simp only [H.add] at *; omega
  old := fun x hx => by rw [add_at, if_neg (fun e => by subst e; omega)]
  fams := rfl
  fresh := fun hf x ox hx => by
    have := num_succ h.next
    rw [add_at] at hx
    simp only [H.add]
    split at hx
    · rename_i e; subst e; omega
    · have := hf x ox hx; omega
  plain := fun x ox hx hox hf => by
    rw [add_at] at hox
    split at hox
    · cases hox; exact ho
    · have := hf x ox hox; omega

theorem Plain.not_shared {o : SObj} (h : Plain o) : ∀ x n g fam, o ≠ .row x n g true fam := by
  rintro x n g fam rfl
  rcases h with ⟨_, _, _, _, h⟩ | ⟨_, _, h⟩ <;> cases h

theorem HR.growP {h h' : H} (hr : HR P ρ h w) (g : Grows h h') : HR P ρ h' w where
  fresh := fun b l hb => Nat.lt_of_lt_of_le (hr.fresh b l hb) g.next
  hfresh := g.fresh hr.hfresh
  lt := hr.lt
  obj := fun b o l hb hl => by
    rw [g.old b (hr.fresh b l hl)] at hb
    refine (hr.obj b o l hb hl).keep (Le.refl _) rfl (fun m lm es ver hm hat => ?_)
    rw [g.old m (hr.fresh m lm hm)] at hat
    exact ⟨hat, rfl⟩
  excl := fun b1 b2 o1 o2 l1 l2 h1 h2 r1 r2 hn hrb => by
    rw [g.old b1 (hr.fresh b1 l1 r1)] at h1
    rw [g.old b2 (hr.fresh b2 l2 r2)] at h2
    exact hr.excl b1 b2 o1 o2 l1 l2 h1 h2 r1 r2 hn hrb
  fam := fun b l sz gg fam hb => by
    rw [g.fams]
    rcases Nat.lt_or_ge (num b) (num h.next) with hlt | hge
    · rw [g.old b hlt] at hb; exact hr.fam b l sz gg fam hb
    · exact absurd rfl ((g.plain b _ hge hb hr.hfresh).not_shared _ _ _ _)

theorem Ext.growP {ρ0 : Rho} {h0 h h' : H} {w0 : World} (hx : Ext ρ0 h0 w0 ρ h w) (g : Grows h h') : Ext ρ0 h0 w0 ρ h' w where
  le := hx.le
  new := hx.new
  next := Nat.le_trans hx.next g.next
  size := hx.size
  keep := hx.keep
  newrb := hx.newrb
  dead := fun b hb hlt => by rw [g.old b (Nat.lt_of_lt_of_le hlt hx.next)]; exact hx.dead b hb hlt
  gone := fun b hlt h1 => by rw [g.old b (Nat.lt_of_lt_of_le hlt hx.next)]; exact hx.gone b hlt h1
  os := hx.os
  output := hx.output
  tape := hx.tape

/-- A plain object does not hang on others. -/
theorem ObjR.plain {ρ' : Rho} {h h' : H} {w' : World} {o : SObj} {l : Loc} (hp : Plain o) (ho : ObjR P ρ h w l o) (hle : Le ρ ρ') (hb : w'.heap[l.rb]? = w.heap[l.rb]?) : ObjR P ρ' h' w' l o := by
  rcases hp with ⟨x, n, g, fam, rfl⟩ | ⟨es, ver, rfl⟩
  · obtain ⟨h1, h2, c, e, fr, h3, h4, h5, h6, h7⟩ := ho
    exact ⟨h1, h2, c, e, fr, by rw [hb]; exact h3, h4.mono hle, h5, h6, h7⟩
  · obtain ⟨en, cl, h1, h2, h3⟩ := ho
    exact ⟨en, cl, by rw [hb]; exact h1, h2.mono hle, h3⟩

/-- A place that the shadow has already gets its block. -/
theorem HR.add {h : H} (hr : HR P ρ h w) {p : Pos} {loc : Loc} (hp : ρ p = none) (hlt : num p < num h.next) (hold : ∀ r, r < w.heap.size → w1.heap[r]? = w.heap[r]?) (hsz : w.heap.size ≤ w1.heap.size)
    (h1 : w.heap.size ≤ loc.rb) (h2 : loc.rb < w1.heap.size) (ho : ∀ o, h.at_ p = some o → Plain o ∧ ObjR P (upd ρ p loc) h w1 loc o) : HR P (upd ρ p loc) h w1 where
  fresh := fun b l hb => by
    unfold upd at hb
    split at hb
    · rename_i e; subst e; exact hlt
    · exact hr.fresh b l hb
  hfresh := hr.hfresh
  lt := fun b l hb => by
    unfold upd at hb
    split at hb
    · cases hb; exact h2
    · exact Nat.lt_of_lt_of_le (hr.lt b l hb) hsz
  obj := fun b o l hb hl => by
    by_cases e : b = p
    · subst e
      rw [upd_same] at hl; cases hl
      exact (ho o hb).2
    · rw [upd_other loc e] at hl
      refine (hr.obj b o l hb hl).keep (upd_le hp) (hold _ (hr.lt b l hl)) (fun m lm es ver hm hat => ?_)
      exact ⟨hat, hold _ (hr.lt m lm hm)⟩
  excl := fun b1 b2 o1 o2 l1 l2 a1 a2 r1 r2 hn hrb => by
    unfold upd at r1 r2
    split at r1
    · cases r1
      split at r2
      · rename_i e1 e2; exact absurd (e1.trans e2.symm) hn
      · have := hr.lt b2 l2 r2; omega
    · split at r2
      · cases r2
        have := hr.lt b1 l1 r1; omega
      · exact hr.excl b1 b2 o1 o2 l1 l2 a1 a2 r1 r2 hn hrb
  fam := hr.fam

theorem Ext.add {ρ0 : Rho} {h0 h : H} {w0 : World} (hx : Ext ρ0 h0 w0 ρ h w) {p : Pos} {loc : Loc} (hp : ρ p = none) (hge : num h0.next ≤ num p) (hold : ∀ r, r < w.heap.size → w1.heap[r]? = w.heap[r]?) (hsz : w.heap.size ≤ w1.heap.size)
    (h1 : w.heap.size ≤ loc.rb) (hos : w1.os = w.os) (hout : w1.output = w.output) (ht : w1.tape = w.tape) : Ext ρ0 h0 w0 (upd ρ p loc) h w1 where
  le := hx.le.trans (upd_le hp)
  new := fun b l hb h0' => by
    unfold upd at hb
    split at hb
    · rename_i e; subst e; exact hge
    · exact hx.new b l hb h0'
  next := hx.next
  size := Nat.le_trans hx.size hsz
  keep := fun r hr hn => (hold r (Nat.lt_of_lt_of_le hr hx.size)).trans (hx.keep r hr hn)
  newrb := fun b l hb h0' => by
    unfold upd at hb
    split at hb
    · cases hb; exact .inl (Nat.le_trans hx.size h1)
    · exact hx.newrb b l hb h0'
  dead := hx.dead
  gone := hx.gone
  os := hos.trans hx.os
  output := hout.trans hx.output
  tape := ht.trans hx.tape

/-! The trace. -/
structure Ent where
  i : Nat
  op : Oper
  r : Rec

def tmE (tm0 : T SV) : List Ent → T SV
  | [] => tm0
  | e :: d => setT (tmE tm0 d) e.r.o.op.dst e.r.v

def hE (h0 : H) : List Ent → H
  | [] => h0
  | e :: _ => e.r.h'

structure EntOK (P : Program) (X : Ctx) (nt g : Nat) (ops : Array Oper) (tm0 : T SV) (h0 : H) (done : List Ent) (e : Ent) : Prop where
  op : ops[e.i]? = some e.op
  so : soO P nt g ops.toList (done.map (·.op.dst)) e.op = some e.r.o.op
  kind : e.r.o.kind = kindOf e.r.o.op.op
  ods : kindOf e.r.o.op.op = 2 → e.r.o.ods = e.op.op.operands.toList.filterMap (odO (fun t => lkT g t (done.map (·.op.dst)) 0))
  loc : e.r.loc = done.map (·.r.v)
  tm : e.r.tm = tmE tm0 done
  h : e.r.h = hE h0 done
  run : (e.r.on = false ∧ wanted e.r.o.op.g e.r.o.op.gw e.r.loc = false ∧ e.r.v = und ∧ e.r.h' = e.r.h) ∨
    (e.r.on = true ∧ wanted e.r.o.op.g e.r.o.op.gw e.r.loc = true ∧ evS e.r.o.op.op X (evOd e.r.loc e.r.tm) e.r.h = some (.val e.r.v e.r.h') ∧ ∀ y ∈ e.r.o.ods, bdS (num e.r.h.next) (evOd e.r.loc e.r.tm y) = true)

def Tr (P : Program) (X : Ctx) (nt g : Nat) (ops : Array Oper) (tm0 : T SV) (h0 : H) : List Ent → Prop
  | [] => True
  | e :: done => Tr P X nt g ops tm0 h0 done ∧ EntOK P X nt g ops tm0 h0 done e

theorem trace_of {nt g : Nat} {ops : Array Oper} {tm0 : T SV} {h0 : H} {pres : List Nat} {acts : Nat} : ∀ (ord : List Nat) (pl : List Oper) (l : List SO) (done : List Ent) (rs : List Rec),
    mapO (fun i => nthL ops.toList i) ord = some pl → regO P nt g ops.toList (done.map (·.op.dst)) pl = some l → runD X (dosOf g pres acts (done.map (·.op.dst)) ord pl l) (done.map (·.r.v)) (tmE tm0 done) (hE h0 done) = some rs →
    Tr P X nt g ops tm0 h0 done →
    ∃ L : List Ent, Tr P X nt g ops tm0 h0 (L.reverse ++ done) ∧ L.map (·.i) = ord ∧ L.map (·.r) = rs ∧ L.map (·.r.o.op) = l ∧ ∀ pre e post, L = pre ++ e :: post → e.r.o.win = winOf pres acts e.i (post.map (·.i))
  | [], pl, l, done, rs, h1, h2, h3, ht => by
    simp only [mapO, Option.some.injEq] at h1; subst h1
    simp only [regO, Option.some.injEq] at h2; subst h2
    simp only [dosOf, runD, Option.some.injEq] at h3; subst h3
    exact ⟨[], by simpa using ht, rfl, rfl, rfl, fun pre e post h => by cases pre <;> cases h⟩
  | i :: ord, pl, l, done, rs, h1, h2, h3, ht => by
    simp only [mapO] at h1
    split at h1
    case h_2 => cases h1
    rename_i o pl' ho hpl
    cases h1
    simp only [regO] at h2
    split at h2
    case h_2 => cases h2
    rename_i x l' hx hl
    cases h2
    have hoi : ops[i]? = some o := by rw [nthL_eq] at ho; simpa using ho
    simp only [dosOf, runD] at h3
    have fin : ∀ (r : Rec) (rs' : List Rec), EntOK P X nt g ops tm0 h0 done ⟨i, o, r⟩ → r.o.op = x → r.o.win = winOf pres acts i ord → rs = r :: rs' →
        runD X (dosOf g pres acts (((⟨i, o, r⟩ : Ent) :: done).map (·.op.dst)) ord pl' l') (((⟨i, o, r⟩ : Ent) :: done).map (·.r.v)) (tmE tm0 ((⟨i, o, r⟩ : Ent) :: done)) (hE h0 ((⟨i, o, r⟩ : Ent) :: done)) = some rs' →
        ∃ L : List Ent, Tr P X nt g ops tm0 h0 (L.reverse ++ done) ∧ L.map (·.i) = i :: ord ∧ L.map (·.r) = rs ∧ L.map (·.r.o.op) = x :: l' ∧ ∀ pre e post, L = pre ++ e :: post → e.r.o.win = winOf pres acts e.i (post.map (·.i)) := by
      intro r rs' hok hop hwin hrs hrun
      obtain ⟨L, k1, k2, k3, k4, k5⟩ := trace_of (pres := pres) (acts := acts) ord pl' l' (⟨i, o, r⟩ :: done) rs' hpl hl hrun ⟨ht, hok⟩
      refine ⟨⟨i, o, r⟩ :: L, by simpa using k1, by simp [k2], by simp [k3, hrs], by simp [k4, hop], fun pre e post h => ?_⟩
      cases pre with
      | nil => cases h; rw [k2]; exact hwin
      | cons _ pre => cases h; exact k5 pre e post rfl
    split at h3
    · rename_i hw
      split at h3
      · rename_i rs' hrun
        cases h3
        exact fin _ rs' ⟨hoi, hx, rfl, fun hk => by simp only; rw [hk]; rfl, rfl, rfl, rfl, .inl ⟨rfl, hw, rfl, rfl⟩⟩ rfl rfl rfl hrun
      · cases h3
    · rename_i hw
      split at h3
      · rename_i v h' he
        split at h3
        · rename_i hbd
          split at h3
          · rename_i rs' hrun
            cases h3
            exact fin _ rs' ⟨hoi, hx, rfl, fun hk => by simp only; rw [hk]; rfl, rfl, rfl, rfl, .inr ⟨rfl, hw, he, fun y hy => List.all_eq_true.1 hbd y hy⟩⟩ rfl rfl rfl hrun
          · cases h3
        · cases h3
      · cases h3

end Go.Sh
