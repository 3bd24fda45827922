/-
  The shadow run and its soundness, part 3 (texts of mine joined by a program of mine).
-/
import Derived.Test.YtgpcmjmpiabpmaaGreatEb
import Derived.Orders
import Derived.KernelRfl

/-
  Drawn regions: operands, guards, checks, at any moment of any schedule.
-/
namespace Go.Sh
set_option linter.unusedVariables false
variable {P : Program} {X : Ctx} {nt g : Nat} {ops : Array Oper} {tm0 : T SV} {h0 : H} {pres : List Nat} {acts : Nat} {LL : List Ent}

structure Drawn (P : Program) (X : Ctx) (nt g : Nat) (ops : Array Oper) (tm0 : T SV) (h0 : H) (pres : List Nat) (acts : Nat) (LL : List Ent) : Prop where
  tr : Tr P X nt g ops tm0 h0 LL
  ord : OrdR pres acts ops.size (LL.map (·.i))
  all : ∀ i, i < ops.size → ∃ e ∈ LL, e.i = i
  edges : edgesOk pres ops.toList 0 = true
  tmps : tmpsOk pres ops.toList ops.toList 0 = true
  isAct : ∀ e ∈ LL, Nat.testBit acts e.i = true ↔ kindOf e.r.o.op.op = 3
  win : ∀ pre e post, LL.reverse = pre ++ e :: post → e.r.o.win = winOf pres acts e.i (post.map (·.i))
  chk : chkAll X (LL.reverse.map (·.r)) (stages h0 (LL.reverse.map (·.r))) = true

theorem Tr.tail {l r : List Ent} (h : Tr P X nt g ops tm0 h0 (l ++ r)) : Tr P X nt g ops tm0 h0 r := by
  induction l with
  | nil => exact h
  | cons e l ih => exact ih h.1

theorem OrdR.tail {n : Nat} {l r : List Nat} (h : OrdR pres acts n (l ++ r)) : OrdR pres acts n r := by
  induction l with
  | nil => exact h
  | cons e l ih => exact ih h.1

theorem Drawn.ent (hd : Drawn P X nt g ops tm0 h0 pres acts LL) {pre post : List Ent} {e : Ent} (h : LL = pre ++ e :: post) : EntOK P X nt g ops tm0 h0 post e := by
  have := hd.tr; rw [h] at this; exact this.tail.2

theorem Drawn.ordE (hd : Drawn P X nt g ops tm0 h0 pres acts LL) {pre post : List Ent} {e : Ent} (h : LL = pre ++ e :: post) :
    e.i < ops.size ∧ e.i ∉ post.map (·.i) ∧ (∀ j, Nat.testBit (preOf pres e.i) j = true → j ∈ post.map (·.i)) ∧ (∀ q ∈ post, Nat.testBit acts q.i = true → Nat.testBit (preOf pres e.i) q.i = true) := by
  have := hd.ord; rw [h, List.map_append, List.map_cons] at this
  obtain ⟨_, h1, h2, h3, h4⟩ := this.tail
  exact ⟨h1, h2, h3, fun q hq ha => h4 q.i (List.mem_map.2 ⟨q, hq, rfl⟩) ha⟩

theorem ord_nodup {n : Nat} : ∀ {l : List Nat}, OrdR pres acts n l → l.Nodup
  | [], h => List.nodup_nil
  | i :: l, h => List.nodup_cons.2 ⟨h.2.2.1, ord_nodup h.1⟩

theorem Drawn.same (hd : Drawn P X nt g ops tm0 h0 pres acts LL) {e q : Ent} (he : e ∈ LL) (hq : q ∈ LL) (h : e.i = q.i) : e = q := by
  have hn := ord_nodup hd.ord
  clear hd
  induction LL with
  | nil => cases he
  | cons x l ih =>
    rw [List.map_cons, List.nodup_cons] at hn
    rcases List.mem_cons.1 he with rfl | he'
    · rcases List.mem_cons.1 hq with rfl | hq'
      · rfl
      · exact absurd (List.mem_map.2 ⟨q, hq', h.symm⟩) hn.1
    · rcases List.mem_cons.1 hq with rfl | hq'
      · exact absurd (List.mem_map.2 ⟨e, he', h⟩) hn.1
      · exact ih he' hq' hn.2

theorem Drawn.opOf (hd : Drawn P X nt g ops tm0 h0 pres acts LL) {e : Ent} (he : e ∈ LL) : ops[e.i]? = some e.op := by
  obtain ⟨pre, post, h⟩ := List.append_of_mem he
  exact (hd.ent h).op

/-- what stands ahead of an operation is ahead of it in our order. -/
theorem Drawn.before (hd : Drawn P X nt g ops tm0 h0 pres acts LL) {pre post : List Ent} {e q : Ent} (h : LL = pre ++ e :: post) (hq : q ∈ LL) (hb : Nat.testBit (preOf pres e.i) q.i = true) : q ∈ post := by
  obtain ⟨q', h1, h2⟩ := List.mem_map.1 ((hd.ordE h).2.2.1 _ hb)
  have hq' : q' ∈ LL := by rw [h]; simp [h1]
  rw [← hd.same hq' hq h2]; exact h1

/-- what is done: closed under what stands ahead. -/
def Closed (ops : Array Oper) (D : Nat → Prop) : Prop := ∀ i o, ops[i]? = some o → D i → ∀ e ∈ o.after.toList, Region.binds .any e = true → D e.on

theorem Drawn.closed (hd : Drawn P X nt g ops tm0 h0 pres acts LL) {D : Nat → Prop} (hc : Closed ops D) {i j : Nat} {o : Oper} (ho : ops[i]? = some o) (hdo : ∀ e ∈ o.after.toList, Region.binds .any e = true → D e.on) (hj : Nat.testBit (preOf pres i) j = true) : D j :=
  pre_closed hd.edges D hc (i + 1) i (by omega) o ho hdo j hj

theorem Drawn.closed' (hd : Drawn P X nt g ops tm0 h0 pres acts LL) {D : Nat → Prop} (hc : Closed ops D) {i j : Nat} {o : Oper} (ho : ops[i]? = some o) (hi : D i) (hj : Nat.testBit (preOf pres i) j = true) : D j :=
  hd.closed hc ho (hc i o ho hi) hj

theorem lkT_loc {t : Tmp} : ∀ {l : List (Option Tmp)} {i k : Nat}, lkT g t l i = some (.loc k) → ∃ j, k = i + j ∧ l[j]? = some (some t)
  | [], i, k, h => by simp only [lkT] at h; cases hb : Nat.testBit g t <;> simp [hb] at h
  | some d :: l, i, k, h => by
    simp only [lkT] at h
    by_cases hdt : d = t
    · subst hdt
      rw [beq_true rfl] at h
      simp only [cond_true, Option.some.injEq, Od.loc.injEq] at h
      exact ⟨0, by omega, rfl⟩
    · rw [beq_false hdt] at h
      obtain ⟨j, h1, h2⟩ := lkT_loc (i := i + 1) h
      exact ⟨j + 1, by omega, by simpa using h2⟩
  | none :: l, i, k, h => by
    simp only [lkT] at h
    obtain ⟨j, h1, h2⟩ := lkT_loc (i := i + 1) h
    exact ⟨j + 1, by omega, by simpa using h2⟩

theorem lkT_tmp_not {t : Tmp} {p : Pos} : ∀ {l : List (Option Tmp)} {i : Nat}, lkT g t l i = some (.tmp p) → some t ∉ l
  | [], i, h => by simp
  | some d :: l, i, h => by
    simp only [lkT] at h
    by_cases hdt : d = t
    · subst hdt; rw [beq_true rfl] at h; simp at h
    · rw [beq_false hdt] at h
      have := lkT_tmp_not (i := i + 1) h
      simp only [List.mem_cons, not_or]
      exact ⟨fun e => hdt (by injection e with e; exact e.symm), this⟩
  | none :: l, i, h => by
    simp only [lkT] at h
    have := lkT_tmp_not (i := i + 1) h
    simp only [List.mem_cons, not_or]
    exact ⟨by simp, this⟩

theorem tmE_get (hg : ∀ e ∈ LL, e.r.o.op.dst = dstO g e.op.dst) {t : Tmp} (ht : g.testBit t = true) :
    (∃ e ∈ LL, e.op.dst = some t ∧ T.get (Pos.ofNat t) (tmE tm0 LL) = some e.r.v) ∨ ((∀ e ∈ LL, e.op.dst ≠ some t) ∧ T.get (Pos.ofNat t) (tmE tm0 LL) = T.get (Pos.ofNat t) tm0) := by
  induction LL with
  | nil => exact .inr ⟨by simp, rfl⟩
  | cons e l ih =>
    have hge := hg e (by simp)
    simp only [tmE]
    by_cases hd : e.op.dst = some t
    · left
      refine ⟨e, by simp, hd, ?_⟩
      have hte : Nat.testBit g t = true := ht
      rw [hge, hd]
      simp only [dstO, hte, cond_true, setT, T.get_put, if_true]
    · have hsame : T.get (Pos.ofNat t) (setT (tmE tm0 l) e.r.o.op.dst e.r.v) = T.get (Pos.ofNat t) (tmE tm0 l) := by
        rw [hge]
        cases hed : e.op.dst with
        | none => rfl
        | some d =>
          simp only [dstO]
          cases hb : Nat.testBit g d with
          | false => rfl
          | true =>
            simp only [cond_true, setT, T.get_put]
            rw [if_neg]
            intro e'
            have := ofNat_inj e'
            subst this
            exact hd hed
      rw [hsame]
      rcases ih (fun e he => hg e (by simp [he])) with ⟨q, h1, h2, h3⟩ | ⟨h1, h2⟩
      · exact .inl ⟨q, by simp [h1], h2, h3⟩
      · right
        refine ⟨fun q hq => ?_, h2⟩
        rcases List.mem_cons.1 hq with rfl | hq
        · exact hd
        · exact h1 q hq

theorem Drawn.dst (hd : Drawn P X nt g ops tm0 h0 pres acts LL) {e : Ent} (he : e ∈ LL) : e.r.o.op.dst = dstO g e.op.dst ∧ dstIn nt e.op.dst = true := by
  obtain ⟨pre, post, h⟩ := List.append_of_mem he
  obtain ⟨h1, h2, h3, h4⟩ := soO_inv (hd.ent h).so
  exact ⟨h4, h1⟩

/-- what the machine's temporaries are at a moment: 'D' is done. -/
structure Vals (g nt : Nat) (tm0 : T SV) (LL : List Ent) (D : Nat → Prop) (ρ : Rho) (a : Act) : Prop where
  size : nt ≤ a.tmps.size
  vals : ∀ e ∈ LL, D e.i → ∀ t, e.op.dst = some t → VR ρ e.r.v (a.tmps.getD t undef)
  kept : ∀ t, g.testBit t = true → (∀ e ∈ LL, e.op.dst = some t → ¬ D e.i) → VR ρ ((T.get (Pos.ofNat t) tm0).getD und) (a.tmps.getD t undef)

open Classical in
/-- the operands of one operation alone. -/
noncomputable def odR (od : Operand → Option Od) (o : Oper) : Operand → Option Od := fun x => if x ∈ o.op.operands.toList then od x else none

theorem odR_opO {od : Operand → Option Od} {o : Oper} : opO P (odR od o) o.op = opO P od o.op :=
  opO_congr (fun x hx => by unfold odR; rw [if_pos hx])

variable {D : Nat → Prop} {ρ : Rho} {a : Act}

theorem Drawn.evs (hd : Drawn P X nt g ops tm0 h0 pres acts LL) (hv : Vals g nt tm0 LL D ρ a) (hc : Closed ops D) {pre post : List Ent} {e : Ent} (h : LL = pre ++ e :: post) (hpre : ∀ j, Nat.testBit (preOf pres e.i) j = true → D j) (hnd : ¬ D e.i) :
    Evs ρ (odR (odO (fun t => lkT g t (post.map (·.op.dst)) 0)) e.op) (evOd e.r.loc e.r.tm) a.eval := by
  intro x y hx
  unfold odR at hx
  split at hx
  case isFalse => cases hx
  rename_i hmem
  have hok := hd.ent h
  have heLL : e ∈ LL := by rw [h]; simp
  cases x with
  | const v =>
    simp only [odO] at hx
    split at hx
    · rename_i z hz; cases hx; exact ofVal_sound _ _ _ hz
    · cases hx
  | global gl => cases hx
  | func f =>
    simp only [odO] at hx; cases hx
    exact .fn _ _ _ _ _ _ (.same _ (by simp)) .nl .nl
  | tmp t =>
    simp only [odO] at hx
    have hreads : t ∈ tmpsOf e.op := mem_tmpsOf.2 hmem
    cases y with
    | cst v => exact absurd hx lkT_cst
    | loc k =>
      obtain ⟨j, h1, h2⟩ := lkT_loc hx
      rw [Nat.zero_add] at h1; subst h1
      rw [List.getElem?_map] at h2
      obtain ⟨q, hq, hqd⟩ := map_some h2
      have hqp : q ∈ post := List.mem_of_getElem? hq
      have hqLL : q ∈ LL := by rw [h]; simp [hqp]
      have hw := writer_spec hd.tmps (hd.opOf hqLL) hqd (hd.opOf heLL)
      have hne : q.i ≠ e.i := fun e' => (hd.ordE h).2.1 (List.mem_map.2 ⟨q, hqp, e'⟩)
      rw [if_neg hne] at hw
      have hqD : D q.i := by
        rcases hw.2 hreads with h3 | h3
        · exact hpre _ h3
        · exfalso
          obtain ⟨p1, p2, hp⟩ := List.append_of_mem hqp
          have hq2 : LL = (pre ++ e :: p1) ++ q :: p2 := by rw [h, hp]; simp
          have := hd.before hq2 heLL h3
          exact (hd.ordE h).2.1 (List.mem_map.2 ⟨e, by rw [hp]; simp [this], rfl⟩)
      have := hv.vals q hqLL hqD t hqd
      simp only [evOd, hok.loc, nthL_eq, List.getElem?_map, hq, Option.map_some, Option.getD_some]
      exact this
    | tmp p =>
      obtain ⟨rfl, hb⟩ := lkT_tmp hx
      have hno := lkT_tmp_not hx
      have hposts : ∀ q ∈ post, q.op.dst ≠ some t := fun q hq e' => hno (List.mem_map.2 ⟨q, hq, e'⟩)
      have hget : T.get (Pos.ofNat t) e.r.tm = T.get (Pos.ofNat t) tm0 := by
        rw [hok.tm]
        rcases tmE_get (tm0 := tm0) (LL := post) (fun q hq => (hd.dst (by rw [h]; simp [hq])).1) hb with ⟨q, h1, h2, _⟩ | ⟨_, h2⟩
        · exact absurd h2 (hposts q h1)
        · exact h2
      simp only [evOd, hget]
      refine hv.kept t hb (fun q hq hqd hqD => ?_)
      have hw := writer_spec hd.tmps (hd.opOf hq) hqd (hd.opOf heLL)
      have hne : q.i ≠ e.i := fun e' => hnd (e' ▸ hqD)
      rw [if_neg hne] at hw
      rcases hw.2 hreads with h3 | h3
      · exact hposts q (hd.before h hq h3) hqd
      · exact hnd (hd.closed' hc (hd.opOf hq) hqD h3)

/-- guards, where what they look at has been yielded. -/
theorem wanted_eq1 {all : List Oper} (ho : ops.toList = all) {done : List (Option Tmp)} {loc : List SV} {tmps : Array Value} {o : Oper} {k : Nat} {b : Bool} (hg : guardO all done o = some (k, b))
    (hd : ∀ j b q d i, o.guard = some (j, b) → nthL all j = some q → q.dst = some d → lkT 0 d done 0 = some (.loc i) → VR ρ ((nthL loc i).getD und) (tmps.getD d undef)) :
    wanted k b loc = Region.wanted o (yielded ops tmps) := by
  unfold guardO at hg
  cases hgd : o.guard with
  | none =>
    rw [hgd] at hg
    cases hg
    simp [wanted, Region.wanted, hgd]
  | some jb =>
    obtain ⟨j, want⟩ := jb
    rw [hgd] at hg
    simp only at hg
    split at hg
    · rename_i q hq
      split at hg
      · rename_i d hqd
        split at hg
        · rename_i i hi
          cases hg
          have hv := hd j b q d i hgd hq hqd hi
          have hj : (ops[j]?).bind (·.dst) = some d := by
            rw [nthL_eq, ← ho] at hq
            have hq' : ops[j]? = some q := by simpa using hq
            rw [hq', Option.bind_some, hqd]
          have hw : Region.wanted o (yielded ops tmps) = (yielded ops tmps j == some b) := by simp [Region.wanted, hgd]
          rw [hw]
          have key : ∀ c, (nthL loc i).getD und = .bool c ↔ yielded ops tmps j = some c := fun c => by
            rw [yielded_eq ops tmps j d hj c]; exact hv.bool_iff c
          simp only [wanted, Nat.succ_eq_add_one]
          rw [beq_false (by omega), cond_false]
          show (match nthL loc (i + 1 - 1) with | some (.bool b') => (match b', b with | true, true => true | false, false => true | _, _ => false) | _ => false) = _
          rw [Nat.add_sub_cancel]
          cases hn : nthL loc i with
          | none =>
            rw [hn] at key
            cases hy : yielded ops tmps j with
            | none => rfl
            | some c => have := (key c).2 hy; cases this
          | some v =>
            rw [hn] at key
            simp only [Option.getD_some] at key
            cases hy : yielded ops tmps j with
            | none =>
              have hnb : ∀ c, v ≠ .bool c := fun c e => by have := (key c).1 e; rw [hy] at this; cases this
              cases v <;> first | rfl | exact absurd rfl (hnb _)
            | some c =>
              have := (key c).2 hy; subst this
              cases c <;> cases b <;> rfl
        · cases hg
      · cases hg
    · cases hg

theorem Drawn.wanted (hd : Drawn P X nt g ops tm0 h0 pres acts LL) (hv : Vals g nt tm0 LL D ρ a) {pre post : List Ent} {e : Ent} (h : LL = pre ++ e :: post) (hpre : ∀ j, Nat.testBit (preOf pres e.i) j = true → D j) :
    Sh.wanted e.r.o.op.g e.r.o.op.gw e.r.loc = Region.wanted e.op (yielded ops a.tmps) := by
  have hok := hd.ent h
  obtain ⟨_, hg, _, _⟩ := soO_inv hok.so
  refine wanted_eq1 (ρ := ρ) rfl hg (fun j b q d i hgd hq hqd hi => ?_)
  have heLL : e ∈ LL := by rw [h]; simp
  have hDj := hpre j (guard_spec hd.tmps (hd.opOf heLL) hgd)
  obtain ⟨k, h1, h2⟩ := lkT_loc hi
  rw [Nat.zero_add] at h1; subst h1
  rw [List.getElem?_map] at h2
  obtain ⟨c, hc, hcd⟩ := map_some h2
  have hcLL : c ∈ LL := by rw [h]; simp [List.mem_of_getElem? hc]
  have hqj : ops[j]? = some q := by rw [nthL_eq] at hq; simpa using hq
  have hcj : c.i = j := by
    refine Classical.byContradiction (fun hne => ?_)
    have hw := writer_spec hd.tmps (hd.opOf hcLL) hcd hqj
    rw [if_neg hne] at hw
    exact hw.1 hqd
  have := hv.vals c hcLL (hcj ▸ hDj) d hcd
  rw [hok.loc, nthL_eq, List.getElem?_map, hc]
  exact this

/-- one more is done. -/
theorem Drawn.put (hd : Drawn P X nt g ops tm0 h0 pres acts LL) (hv : Vals g nt tm0 LL D ρ a) {e : Ent} (he : e ∈ LL) {ρ' : Rho} (hle : Le ρ ρ') {u : Value} (hu : VR ρ' e.r.v u) :
    Vals g nt tm0 LL (fun j => j = e.i ∨ D j) ρ' (a.put e.op.dst u) := by
  have hin := (hd.dst he).2
  have hsz : (a.put e.op.dst u).tmps.size = a.tmps.size := by rw [put_tmps]; cases e.op.dst <;> simp
  refine ⟨by rw [hsz]; exact hv.size, fun q hq hqD t ht => ?_, fun t ht hno => ?_⟩
  · by_cases hqe : q = e
    · subst hqe
      rw [put_tmps, ht]
      have : t < a.tmps.size := by
        rw [ht] at hin; simp only [dstIn, Nat.blt_eq] at hin; exact Nat.lt_of_lt_of_le hin hv.size
      rw [getD_set _ _ _ _ this, if_pos rfl]
      exact hu
    · have hne : q.i ≠ e.i := fun e' => hqe (hd.same hq he e')
      have hold := (hv.vals q hq (hqD.resolve_left hne) t ht).mono hle
      rw [put_tmps]
      cases hed : e.op.dst with
      | none => exact hold
      | some d =>
        have : d < a.tmps.size := by
          rw [hed] at hin; simp only [dstIn, Nat.blt_eq] at hin; exact Nat.lt_of_lt_of_le hin hv.size
        rw [getD_set _ _ _ _ this, if_neg]
        · exact hold
        · intro e'; subst e'
          have hw := writer_spec hd.tmps (hd.opOf hq) ht (hd.opOf he)
          rw [if_neg hne] at hw
          exact hw.1 hed
  · have hold := (hv.kept t ht (fun q hq hqt hqD => hno q hq hqt (.inr hqD))).mono hle
    rw [put_tmps]
    cases hed : e.op.dst with
    | none => exact hold
    | some d =>
      have : d < a.tmps.size := by
        rw [hed] at hin; simp only [dstIn, Nat.blt_eq] at hin; exact Nat.lt_of_lt_of_le hin hv.size
      rw [getD_set _ _ _ _ this, if_neg]
      · exact hold
      · intro e'; subst e'
        exact hno e he hed (.inl rfl)

/-! The checks. -/
theorem row_at {c : Rec} : ∀ {n : Nat} {ws : List H}, chkRow X c n ws = true → ∀ k ≤ n, ∀ h, ws[k]? = some h → chkAt X c h = true
  | n, [], hc, k, hk, h, hh => by simp at hh
  | 0, x :: ws, hc, k, hk, h, hh => by
    have : k = 0 := by omega
    subst this
    simp only [List.getElem?_cons_zero, Option.some.injEq] at hh; subst hh
    exact hc
  | n + 1, x :: ws, hc, k, hk, h, hh => by
    simp only [chkRow, Bool.and_eq_true] at hc
    cases k with
    | zero => simp only [List.getElem?_cons_zero, Option.some.injEq] at hh; subst hh; exact hc.1
    | succ k => exact row_at hc.2 k (by omega) h (by simpa using hh)

theorem chk_drop : ∀ (C1 C2 : List Rec) (h : H), chkAll X (C1 ++ C2) (stages h (C1 ++ C2)) = true → chkAll X C2 (stages (hR h C1) C2) = true
  | [], C2, h, hc => hc
  | c :: C1, C2, h, hc => by
    simp only [List.cons_append, chkAll, Bool.and_eq_true, stages] at hc
    refine chk_drop C1 C2 c.h' ?_
    cases hk : Nat.beq c.o.kind 3 with
    | true => rw [hk] at hc; exact hc.2
    | false => rw [hk] at hc; exact hc.2

def cntA : List Rec → Nat
  | [] => 0
  | c :: l => match Nat.beq c.o.kind 3 with
    | true => cntA l + 1
    | false => cntA l

theorem stage_at : ∀ (C1 C2 : List Rec) (h : H), (C2 = [] ∨ ∃ c r, C2 = c :: r ∧ Nat.beq c.o.kind 3 = true ∧ c.h = hR h C1) → (stages h (C1 ++ C2))[cntA C1]? = some (hR h C1)
  | [], C2, h, hc => by
    rcases hc with rfl | ⟨c, r, rfl, h1, h2⟩
    · rfl
    · simp only [List.nil_append, stages, h1, cntA, List.getElem?_cons_zero, h2]
  | c :: C1, C2, h, hc => by
    have ih := stage_at C1 C2 c.h' hc
    simp only [List.cons_append, stages, cntA, hR]
    cases hk : Nat.beq c.o.kind 3 with
    | true => simpa using ih
    | false => exact ih

theorem hR_hE (y : List Ent) : ∀ (x : List Ent), hR (hE h0 y) (x.reverse.map (·.r)) = hE h0 (x ++ y)
  | [] => rfl
  | e :: x => by
    have app : ∀ (l : List Rec) (c : Rec) (h : H), hR h (l ++ [c]) = c.h' := by
      intro l c
      induction l with
      | nil => intro h; rfl
      | cons d l ih => intro h; exact ih _
    rw [List.reverse_cons, List.map_append, List.map_cons, List.map_nil, app]
    rfl

theorem win_ge {i : Nat} : ∀ (l1 l2 : List Ent), (∀ b ∈ l1, Nat.testBit acts b.i = true → Nat.testBit (preOf pres b.i) i = false) → (∀ b ∈ l1, Nat.testBit acts b.i = Nat.beq b.r.o.kind 3) →
    cntA (l1.map (·.r)) ≤ winOf pres acts i ((l1 ++ l2).map (·.i))
  | [], l2, h, hk => Nat.zero_le _
  | b :: l1, l2, h, hk => by
    have ih := win_ge l1 l2 (fun q hq => h q (by simp [hq])) (fun q hq => hk q (by simp [hq]))
    simp only [List.map_cons, List.cons_append, cntA, winOf]
    have hb := hk b (by simp)
    cases hkb : Nat.beq b.r.o.kind 3 with
    | false => rw [hb, hkb]; exact ih
    | true =>
      rw [hb, hkb]
      have := h b (by simp) (by rw [hb, hkb])
      rw [this]
      simp only [cond_true, cond_false]
      exact Nat.succ_le_succ ih

/-- a read says the same at the memory of any moment at which it may be done. -/
theorem Drawn.check (hd : Drawn P X nt g ops tm0 h0 pres acts LL) {up x y : List Ent} {e : Ent} (h : LL = up ++ (x ++ e :: y)) (hup : ∀ u c, up = u ++ [c] → kindOf c.r.o.op.op = 3) (hk : kindOf e.r.o.op.op = 1) (hon : e.r.on = true)
    (hx : ∀ b ∈ x, kindOf b.r.o.op.op = 3 → Nat.testBit (preOf pres b.i) e.i = false) : chkAt X e.r (hE h0 (x ++ e :: y)) = true := by
  have h' : LL = (up ++ x) ++ e :: y := by rw [h]; simp
  have hok := hd.ent h'
  have hkind : ∀ {q}, q ∈ LL → q.r.o.kind = kindOf q.r.o.op.op := fun {q} hq => by
    obtain ⟨pre, post, hp⟩ := List.append_of_mem hq; exact (hd.ent hp).kind
  have hc := hd.chk
  have hrev : LL.reverse.map (·.r) = y.reverse.map (·.r) ++ (e.r :: (x.reverse.map (·.r) ++ up.reverse.map (·.r))) := by rw [h]; simp
  rw [hrev] at hc
  have hc2 := chk_drop _ _ _ hc
  have hk1 : Nat.beq e.r.o.kind 1 = true := by rw [hok.kind, hk]; rfl
  have hk3 : Nat.beq e.r.o.kind 3 = false := by rw [hok.kind, hk]; rfl
  simp only [chkAll, Bool.and_eq_true, hon, hk1] at hc2
  refine row_at hc2.1 (cntA (x.reverse.map (·.r))) ?_ _ ?_
  · have hw := hd.win y.reverse e (x.reverse ++ up.reverse) (by rw [h]; simp)
    rw [hw]
    refine win_ge x.reverse up.reverse (fun b hb hba => ?_) (fun b hb => ?_)
    · have hbx : b ∈ x := by simpa using hb
      exact hx b hbx ((hd.isAct b (by rw [h]; simp [hbx])).1 hba)
    · have hbx : b ∈ x := by simpa using hb
      have hbL : b ∈ LL := by rw [h]; simp [hbx]
      have := hd.isAct b hbL
      rw [hkind hbL]
      cases hb1 : Nat.testBit acts b.i with
      | true => rw [this.1 hb1]; rfl
      | false =>
        symm
        refine beq_false (fun e' => ?_)
        have := this.2 e'; rw [hb1] at this; cases this
  · have hst : stages (hR h0 (y.reverse.map (·.r))) (e.r :: (x.reverse.map (·.r) ++ up.reverse.map (·.r))) = stages e.r.h' (x.reverse.map (·.r) ++ up.reverse.map (·.r)) := by
      simp only [stages, hk3]
    rw [hst]
    have heq : hR e.r.h' (x.reverse.map (·.r)) = hE h0 (x ++ e :: y) := hR_hE (h0 := h0) (e :: y) x
    rw [← heq]
    refine stage_at _ _ _ ?_
    rcases List.eq_nil_or_concat up with rfl | ⟨u, c, rfl⟩
    · exact .inl rfl
    · right
      rw [List.concat_eq_append] at *
      refine ⟨c.r, u.reverse.map (·.r), by simp, ?_, ?_⟩
      · rw [hkind (by rw [h]; simp), hup u c rfl]; rfl
      · have hcE : LL = u ++ c :: (x ++ e :: y) := by rw [h]; simp
        rw [(hd.ent hcE).h, ← heq]

end Go.Sh

/-
  Drawn regions: one operation, at any moment of any schedule.
-/
namespace Go.Sh
set_option linter.unusedVariables false
variable {P : Program} {X : Ctx} {nt g : Nat} {ops : Array Oper} {tm0 : T SV} {h0 : H} {pres : List Nat} {acts : Nat} {LL : List Ent}

theorem kind_cases (s : SOp) : kindOf s = 0 ∨ kindOf s = 1 ∨ kindOf s = 2 ∨ kindOf s = 3 := by
  cases s <;> simp [kindOf]

theorem EntOK.grows {done : List Ent} {e : Ent} (hok : EntOK P X nt g ops tm0 h0 done e) (hk : kindOf e.r.o.op.op ≠ 3) : Grows e.r.h e.r.h' := by
  rcases hok.run with ⟨_, _, _, h⟩ | ⟨_, _, he, _⟩
  · rw [h]; exact .refl _
  · rcases kind_cases e.r.o.op.op with h | h | h | h
    · rw [(kind0 h he).1]; exact .refl _
    · rw [kind1 h he]; exact .refl _
    · obtain ⟨o, hp, h2, _, _⟩ := kind2 h he
      rw [h2]; exact .add _ hp
    · exact absurd h hk

/-- behind an action nothing but growth, up to the next one. -/
theorem grows_run (hd : Drawn P X nt g ops tm0 h0 pres acts LL) {lo : List Ent} : ∀ (ys up : List Ent), LL = up ++ (ys ++ lo) → (∀ e ∈ ys, kindOf e.r.o.op.op ≠ 3) → Grows (hE h0 lo) (hE h0 (ys ++ lo))
  | [], up, h, hk => .refl _
  | e :: ys, up, h, hk => by
    have ih := grows_run (lo := lo) hd ys (up ++ [e]) (by rw [h]; simp) (fun q hq => hk q (by simp [hq]))
    have hok := hd.ent (pre := up) (e := e) (post := ys ++ lo) (by rw [h]; simp)
    have := hok.grows (hk e (by simp))
    rw [hok.h] at this
    exact ih.trans this

/-- the next one never falls. -/
def Mono (h0 : H) (lo : List Ent) : Prop := ∀ x e y, lo = x ++ e :: y → num (hE h0 y).next ≤ num e.r.h'.next

theorem Mono.tail {x y : List Ent} (h : Mono h0 (x ++ y)) : Mono h0 y := fun x' e y' he => h (x ++ x') e y' (by rw [he]; simp)

theorem Mono.le : ∀ {x y : List Ent}, Mono h0 (x ++ y) → num (hE h0 y).next ≤ num (hE h0 (x ++ y)).next
  | [], y, h => Nat.le_refl _
  | e :: x, y, h => Nat.le_trans (Mono.le (x := x) (y := y) (h.tail (x := [e]))) (h [] e (x ++ y) rfl)

/-- where an operation's new memory lies. -/
def IsNew (e : Ent) : Prop := kindOf e.r.o.op.op = 2 ∧ e.r.on = true

theorem EntOK.new {done : List Ent} {e : Ent} (hok : EntOK P X nt g ops tm0 h0 done e) (hn : IsNew e) : ∃ o, Plain o ∧ e.r.h' = e.r.h.add o ∧ num e.r.h'.next = num e.r.h.next + 1 := by
  rcases hok.run with ⟨h, _⟩ | ⟨_, _, he, _⟩
  · rw [hn.2] at h; cases h
  · obtain ⟨o, hp, h2, _, _⟩ := kind2 hn.1 he
    exact ⟨o, hp, h2, by rw [h2]; exact num_succ _⟩

/-- two operations, two places. -/
theorem new_apart (hd : Drawn P X nt g ops tm0 h0 pres acts LL) {up lo : List Ent} (h : LL = up ++ lo) (hm : Mono h0 lo) {e q : Ent} (he : e ∈ lo) (hq : q ∈ lo) (hen : IsNew e) (hqn : IsNew q) (hne : e ≠ q) : num e.r.h.next ≠ num q.r.h.next := by
  have key : ∀ (e q : Ent) (x y : List Ent), lo = x ++ e :: y → q ∈ y → IsNew e → IsNew q → num q.r.h.next < num e.r.h.next := by
    intro e q x y hl hqy hen hqn
    obtain ⟨y1, y2, hy⟩ := List.append_of_mem hqy
    have hok := hd.ent (pre := up ++ x) (e := e) (post := y) (by rw [h, hl]; simp)
    have hokq := hd.ent (pre := up ++ x ++ e :: y1) (e := q) (post := y2) (by rw [h, hl, hy]; simp)
    obtain ⟨_, _, _, h3⟩ := hokq.new hqn
    have hm1 : Mono h0 y := by rw [hl] at hm; have := hm.tail (x := x); exact this.tail (x := [e])
    rw [hy] at hm1
    have hle := hm1.le (x := y1) (y := q :: y2)
    rw [← hy] at hle
    have : num q.r.h'.next ≤ num (hE h0 y).next := hle
    rw [hok.h]; omega
  obtain ⟨x, y, hl⟩ := List.append_of_mem he
  rw [hl] at hq
  rcases List.mem_append.1 hq with hq | hq
  · obtain ⟨x1, x2, hx⟩ := List.append_of_mem hq
    have := key q e x1 (x2 ++ e :: y) (by rw [hl, hx]; simp) (by simp) hqn hen
    omega
  · rcases List.mem_cons.1 hq with rfl | hq
    · exact absurd rfl hne
    · have := key e q x y hl hq hen hqn
      omega

structure Inv (P : Program) (nt g : Nat) (ops : Array Oper) (tm0 : T SV) (h0 : H) (LL : List Ent) (ρ0 : Rho) (w0 : World) (d0 : List Deferred) (D : Nat → Prop) (up lo : List Ent) (ρ : Rho) (a : Act) (w : World) : Prop where
  split : LL = up ++ lo
  head : ∀ u c, up = u ++ [c] → kindOf c.r.o.op.op = 3 ∧ ¬ D c.i
  dlo : ∀ i, D i → ∃ e ∈ lo, e.i = i
  actD : ∀ e ∈ lo, kindOf e.r.o.op.op = 3 → D e.i
  closed : Closed ops D
  hr : HR P ρ (hE h0 lo) w
  ext : Ext ρ0 h0 w0 ρ (hE h0 lo) w
  vals : Vals g nt tm0 LL D ρ a
  mono : Mono h0 lo
  pend : ∀ e ∈ lo, ¬ D e.i → IsNew e → ρ e.r.h.next = none ∧ ∀ o o', (hE h0 lo).at_ e.r.h.next = some o → e.r.h' = e.r.h.add o' → o = o'
  defers : a.defers = d0

variable {ρ0 : Rho} {w0 w : World} {d0 : List Deferred} {D : Nat → Prop} {up lo : List Ent} {ρ : Rho} {a : Act}

theorem Inv.below (hd : Drawn P X nt g ops tm0 h0 pres acts LL) (hi : Inv P nt g ops tm0 h0 LL ρ0 w0 d0 D up lo ρ a w) {e : Ent} (he : e ∈ lo) (hn : IsNew e) : num e.r.h.next < num (hE h0 lo).next ∧ num h0.next ≤ num e.r.h.next := by
  obtain ⟨x, y, hl⟩ := List.append_of_mem he
  have hok := hd.ent (pre := up ++ x) (e := e) (post := y) (by rw [hi.split, hl]; simp)
  obtain ⟨_, _, _, h3⟩ := hok.new hn
  have hm := hi.mono
  rw [hl] at hm
  have h1 : num e.r.h'.next ≤ num (hE h0 (x ++ e :: y)).next := hm.le (x := x) (y := e :: y)
  have h2 : num h0.next ≤ num (hE h0 y).next := by
    have := (hm.tail (x := x)).tail (x := [e])
    have h4 := Mono.le (h0 := h0) (x := y) (y := []) (by simpa using this)
    simpa [hE] using h4
  rw [hl]
  refine ⟨by omega, ?_⟩
  rw [hok.h]; exact h2

theorem Closed.step (hc : Closed ops D) {i : Nat} {o : Oper} (ho : ops[i]? = some o) (hr : ∀ e ∈ o.after.toList, Region.binds .any e = true → D e.on) : Closed ops (fun j => j = i ∨ D j) := by
  intro j q hq hj e he hb
  rcases hj with rfl | hj
  · rw [ho] at hq; cases hq; exact .inr (hr e he hb)
  · exact .inr (hc j q hq hj e he hb)

/-- what was done is: an operation whose memory is the moment's, and which leaves it. -/
theorem Inv.quiet (hd : Drawn P X nt g ops tm0 h0 pres acts LL) (hi : Inv P nt g ops tm0 h0 LL ρ0 w0 d0 D up lo ρ a w) {e : Ent} (he : e ∈ lo) (hk : ¬ IsNew e) (hr : ∀ x ∈ e.op.after.toList, Region.binds .any x = true → D x.on) (hf : ∀ x l, ρ0 x = some l → num x < num h0.next)
    {ρ' : Rho} {w' : World} {u : Value} (h1 : VR ρ' e.r.v u) (h2 : HR P ρ' (hE h0 lo) w') (h3 : Ext ρ (hE h0 lo) w ρ' (hE h0 lo) w') :
    Inv P nt g ops tm0 h0 LL ρ0 w0 d0 (fun j => j = e.i ∨ D j) up lo ρ' (a.put e.op.dst u) w' := by
  have heLL : e ∈ LL := by rw [hi.split]; simp [he]
  refine ⟨hi.split, fun u c hu => ?_, fun i hD => ?_, fun q hq hk3 => .inr (hi.actD q hq hk3), hi.closed.step (hd.opOf heLL) hr, h2, hi.ext.trans h3 hf, hd.put hi.vals heLL h3.le h1, hi.mono, fun q hq hqD hn => ?_, by rw [put_defers]; exact hi.defers⟩
  · obtain ⟨k1, k2⟩ := hi.head u c hu
    refine ⟨k1, ?_⟩
    rintro (hce | hD)
    · have : c = e := hd.same (by rw [hi.split, hu]; simp) heLL hce
      subst this
      exact k2 (hi.actD c he k1)
    · exact k2 hD
  · rcases hD with rfl | hD
    · exact ⟨e, he, rfl⟩
    · exact hi.dlo i hD
  · obtain ⟨k1, k2⟩ := hi.pend q hq (fun hD => hqD (.inr hD)) hn
    refine ⟨?_, k2⟩
    cases hp : ρ' q.r.h.next with
    | none => rfl
    | some l =>
      have := h3.new _ l hp k1
      have := (hi.below hd hq hn).1
      omega

/-- values of places below. -/
def under (n : Nat) (ρ : Rho) : Rho := fun x => if num x < n then ρ x else none

theorem VR_bd {n : Nat} : ∀ {v : SV} {u : Value}, bdS n v = true → VR ρ v u → VR (under n ρ) v u := by
  have hb : ∀ (b : Pos) (l : Loc), Nat.blt (natOfPos b) n = true → ρ b = some l → under n ρ b = some l := fun b l h1 h2 => by
    unfold under; rw [if_pos (by simpa [Nat.blt_eq] using h1)]; exact h2
  have key : ∀ v, (∀ u, bdS n v = true → VR ρ v u → VR (under n ρ) v u) ∧ (∀ ws, bdS n v = true → LR ρ v ws → LR (under n ρ) v ws) := by
    intro v
    induction v with
    | bool b => exact ⟨fun u h hv => by cases hv; exact .bool _, fun ws h hv => by cases hv⟩
    | int k n => exact ⟨fun u h hv => by cases hv; exact .int _ _, fun ws h hv => by cases hv⟩
    | str n v => exact ⟨fun u h hv => by cases hv with | str _ _ s h1 h2 => exact .str _ _ s h1 h2, fun ws h hv => by cases hv⟩
    | ptr b o => exact ⟨fun u h hv => by cases hv with | ptr _ _ l h1 => exact .ptr _ _ l (hb b l h h1), fun ws h hv => by cases hv⟩
    | nilp => exact ⟨fun u h hv => by cases hv; exact .nilp, fun ws h hv => by cases hv⟩
    | slc b o n c => exact ⟨fun u h hv => by cases hv with | slc _ _ _ _ c' l h1 h2 h3 => exact .slc _ _ _ _ c' l (hb b l h h1) h2 h3, fun ws h hv => by cases hv⟩
    | nils => exact ⟨fun u h hv => by cases hv; exact .nils, fun ws h hv => by cases hv⟩
    | emp => exact ⟨fun u h hv => by cases hv; exact .emp _ _, fun ws h hv => by cases hv⟩
    | tslc n => exact ⟨fun u h hv => by cases hv; exact .tslc _ _ _, fun ws h hv => by cases hv⟩
    | map b => exact ⟨fun u h hv => by cases hv with | map _ l h1 => exact .map _ l (hb b l h h1), fun ws h hv => by cases hv⟩
    | nilm => exact ⟨fun u h hv => by cases hv; exact .nilm, fun ws h hv => by cases hv⟩
    | fn f a c iha ihc =>
      refine ⟨fun u h hv => ?_, fun ws h hv => by cases hv⟩
      simp only [bdS, Bool.and_eq_true] at h
      cases hv with
      | fn _ f' _ _ as cs hf h1 h2 =>
        refine .fn _ f' _ _ as cs ?_ (iha.2 _ h.2.1 h1) (ihc.2 _ h.2.2 h2)
        cases hf with
        | same _ hs => exact .same _ hs
        | yield p l hp => have := h.1; simp at this
    | nilf => exact ⟨fun u h hv => by cases hv; exact .nilf, fun ws h hv => by cases hv⟩
    | ifc t v ih => exact ⟨fun u h hv => by cases hv with | ifc _ _ w h1 => exact .ifc _ _ w (ih.1 w h h1), fun ws h hv => by cases hv⟩
    | nili => exact ⟨fun u h hv => by cases hv; exact .nili, fun ws h hv => by cases hv⟩
    | agg l ih => exact ⟨fun u h hv => by cases hv with | agg _ cs h1 h2 => exact .agg _ cs (ih.2 _ h h1) h2, fun ws h hv => by cases hv⟩
    | tup l ih => exact ⟨fun u h hv => by cases hv with | tup _ cs h1 => exact .tup _ cs (ih.2 _ h h1), fun ws h hv => by cases hv⟩
    | nl => exact ⟨fun u h hv => (by cases hv), fun ws h hv => by cases hv; exact .nl⟩
    | cons v l ih1 ih2 =>
      refine ⟨fun u h hv => (by cases hv), fun ws h hv => ?_⟩
      simp only [bdS, Bool.and_eq_true] at h
      cases hv with
      | cons _ _ w ws h1 h2 => exact .cons _ _ w ws (ih1.1 w h.1 h1) (ih2.2 ws h.2 h2)
    | byt n v l ih =>
      refine ⟨fun u h hv => (by cases hv), fun ws h hv => ?_⟩
      cases hv with
      | byt _ _ _ ws h1 h2 => exact .byt _ _ _ ws h1 (ih.2 ws h h2)
  exact fun {v u} => (key v).1 u

/-- new memory. -/
theorem Inv.newmem (hd : Drawn P X nt g ops tm0 h0 pres acts LL) (hX : SoundX P X) (hi : Inv P nt g ops tm0 h0 LL ρ0 w0 d0 D up lo ρ a w) {e : Ent} (he : e ∈ lo) (hn : IsNew e) (hnd : ¬ D e.i) (hr : ∀ x ∈ e.op.after.toList, Region.binds .any x = true → D x.on)
    {b : Frame} {k : List Item} {cs : List Frame} {rest : List Nat} (hw : Region.wanted e.op (yielded ops a.tmps) = true) :
    ∃ ρ' u w', Inv P nt g ops tm0 h0 LL ρ0 w0 d0 (fun j => j = e.i ∨ D j) up lo ρ' (a.put e.op.dst u) w' ∧ Steps P (lone (fr_ b a (.inRegion ops (e.i :: rest) :: k)) cs w) (lone (fr_ b (a.put e.op.dst u) (.inRegion ops rest :: k)) cs w') := by
  have heLL : e ∈ LL := by rw [hi.split]; simp [he]
  obtain ⟨x, y, hl⟩ := List.append_of_mem he
  have hsp : LL = (up ++ x) ++ e :: y := by rw [hi.split, hl]; simp
  have hok := hd.ent hsp
  have hpre : ∀ j, Nat.testBit (preOf pres e.i) j = true → D j := fun j hj => hd.closed hi.closed (hd.opOf heLL) hr hj
  have hev := hd.evs hi.vals hi.closed hsp hpre hnd
  obtain ⟨_, _, hop, _⟩ := soO_inv hok.so
  have hop' := (odR_opO (P := P) (od := odO (fun t => lkT g t (y.map (·.op.dst)) 0)) (o := e.op)).trans hop
  rcases hok.run with ⟨hoff, _⟩ | ⟨_, _, hrun, hbd⟩
  · rw [hn.2] at hoff; cases hoff
  obtain ⟨o, hpl, hh', hvl, hall⟩ := kind2 hn.1 hrun
  generalize hp : e.r.h.next = p at *
  -- the operands speak of places below
  have hev2 : Evs (under (num p) ρ) (odR (odO (fun t => lkT g t (y.map (·.op.dst)) 0)) e.op) (evOd e.r.loc e.r.tm) a.eval := by
    intro z c hz
    refine VR_bd ?_ (hev z c hz)
    refine hbd c ?_
    rw [hok.ods hn.1, List.mem_filterMap]
    unfold odR at hz
    split at hz
    · rename_i hm; exact ⟨z, hm, hz⟩
    · cases hz
  have hnone : ∀ q, (⟨p, .nil, .nil⟩ : H).at_ q = none := fun q => T.get_nil q
  have hrp : HR P (under (num p) ρ) ⟨p, .nil, .nil⟩ w := by
    refine ⟨fun q l hq => ?_, fun q oq hq => (by rw [hnone] at hq; cases hq), fun q l hq => ?_, fun q oq l hq => (by rw [hnone] at hq; cases hq), fun q1 q2 o1 o2 l1 l2 hq => (by rw [hnone] at hq; cases hq), fun q l sz gg fam hq => (by rw [hnone] at hq; cases hq)⟩
    · unfold under at hq
      split at hq
      · assumption
      · cases hq
    · unfold under at hq
      split at hq
      · exact hi.hr.lt q l hq
      · cases hq
  have hse := hall ⟨p, .nil, .nil⟩ rfl
  obtain ⟨ρ1, w1, u, v1, v2, v3, v4⟩ := op_val (b := b) (k := k) (cs := cs) (rest := rest) hX (hd.opOf heLL) hw hop' hev2 hrp hse
  obtain ⟨loc, hloc⟩ := hvl ρ1 u v1
  obtain ⟨hlt, hge⟩ := hi.below hd he hn
  rw [hp] at hlt hge
  obtain ⟨hpn, hpo⟩ := hi.pend e he hnd hn
  rw [hp] at hpn hpo
  have hbn : under (num p) ρ p = none := by unfold under; rw [if_neg (Nat.lt_irrefl _)]
  have hle : Le ρ1 (upd ρ p loc) := by
    intro q l hq
    cases hb : under (num p) ρ q with
    | some l' =>
      have h1 := v3.le q l' hb
      rw [hq] at h1; cases h1
      unfold under at hb
      split at hb
      · rename_i hlt2
        rw [upd_other loc (fun e' => by subst e'; exact Nat.lt_irrefl _ hlt2)]
        exact hb
      · cases hb
    | none =>
      have h1 := v3.new q l hq hb
      have h2 := v2.fresh q l hq
      have h3 : num (H.add ⟨p, .nil, .nil⟩ o).next = num p + 1 := num_succ p
      have h4 : q = p := num_inj (by simp only at h1; omega)
      subst h4
      rw [hloc] at hq; cases hq
      exact upd_same _ _
  have hold : ∀ r, r < w.heap.size → w1.heap[r]? = w.heap[r]? := fun r hr' => v3.keep r hr' (fun q l _ hs => by rw [hnone] at hs; cases hs)
  have hrb : w.heap.size ≤ loc.rb := by
    rcases v3.newrb p loc hloc hbn with h | ⟨q, l, _, hs, _⟩
    · exact h
    · rw [hnone] at hs; cases hs
  have hobj := v2.obj p o loc (by rw [add_at, if_pos rfl]) hloc
  refine ⟨upd ρ p loc, u, w1, ?_, v4⟩
  have hHR : HR P (upd ρ p loc) (hE h0 lo) w1 := by
    refine hi.hr.add hpn hlt hold v3.size hrb (v2.lt p loc hloc) (fun o2 ho2 => ?_)
    have := hpo o2 o ho2 hh'
    subst this
    exact ⟨hpl, hobj.plain hpl hle rfl⟩
  have hExt : Ext ρ0 h0 w0 (upd ρ p loc) (hE h0 lo) w1 := hi.ext.add hpn hge hold v3.size hrb v3.os v3.output v3.tape
  refine ⟨hi.split, fun u' c hu => ?_, fun i hD => ?_, fun q hq hk3 => .inr (hi.actD q hq hk3), hi.closed.step (hd.opOf heLL) hr, hHR, hExt, hd.put hi.vals heLL (upd_le hpn) (v1.mono hle), hi.mono, fun q hq hqD hqn => ?_, by rw [put_defers]; exact hi.defers⟩
  · obtain ⟨k1, k2⟩ := hi.head u' c hu
    refine ⟨k1, ?_⟩
    rintro (hce | hD)
    · have : c = e := hd.same (by rw [hi.split, hu]; simp) heLL hce
      subst this
      exact k2 (hi.actD c he k1)
    · exact k2 hD
  · rcases hD with rfl | hD
    · exact ⟨e, he, rfl⟩
    · exact hi.dlo i hD
  · obtain ⟨k1, k2⟩ := hi.pend q hq (fun hD => hqD (.inr hD)) hqn
    refine ⟨?_, k2⟩
    have hne : q ≠ e := fun e' => hqD (.inl (by rw [e']))
    have := new_apart hd hi.split hi.mono hq he hqn hn hne
    rw [hp] at this
    rw [upd_other loc (fun e' => this (by rw [e']))]
    exact k1

end Go.Sh

/-
  Drawn regions are sound.
-/
namespace Go.Sh
set_option linter.unusedVariables false
variable {P : Program} {X : Ctx} {nt g : Nat} {ops : Array Oper} {tm0 : T SV} {h0 : H} {pres : List Nat} {acts : Nat} {LL : List Ent}
variable {ρ0 : Rho} {w0 w : World} {d0 : List Deferred} {D : Nat → Prop} {up lo : List Ent} {ρ : Rho} {a : Act}

theorem split_acts (u : List Ent) : ∃ up ys, u = up ++ ys ∧ (∀ e ∈ ys, kindOf e.r.o.op.op ≠ 3) ∧ ∀ x c, up = x ++ [c] → kindOf c.r.o.op.op = 3 := by
  have key : ∀ (v : List Ent), ∃ up ys, v.reverse = up ++ ys ∧ (∀ e ∈ ys, kindOf e.r.o.op.op ≠ 3) ∧ ∀ x c, up = x ++ [c] → kindOf c.r.o.op.op = 3 := by
    intro v
    induction v with
    | nil => exact ⟨[], [], rfl, by simp, by simp⟩
    | cons c v ih =>
      by_cases hc : kindOf c.r.o.op.op = 3
      · refine ⟨v.reverse ++ [c], [], by simp, by simp, fun x d hx => ?_⟩
        have := (List.append_inj_right' hx rfl)
        cases this; exact hc
      · obtain ⟨up, ys, h1, h2, h3⟩ := ih
        refine ⟨up, ys ++ [c], by simp [h1], fun e he => ?_, h3⟩
        rcases List.mem_append.1 he with he | he
        · exact h2 e he
        · simp at he; subst he; exact hc
  have := key u.reverse
  simpa using this

theorem extend (hd : Drawn P X nt g ops tm0 h0 pres acts LL) (hsp : LL = up ++ lo) (hdlo : ∀ i, D i → ∃ e ∈ lo, e.i = i) (hact : ∀ e ∈ lo, kindOf e.r.o.op.op = 3 → D e.i) (hcl : Closed ops D) (hr : HR P ρ (hE h0 lo) w) (hx : Ext ρ0 h0 w0 ρ (hE h0 lo) w)
    (hv : Vals g nt tm0 LL D ρ a) (hm : Mono h0 lo) (hp : ∀ e ∈ lo, ¬ D e.i → IsNew e → ρ e.r.h.next = none ∧ ∀ o o', (hE h0 lo).at_ e.r.h.next = some o → e.r.h' = e.r.h.add o' → o = o') (hde : a.defers = d0) :
    ∃ up' lo', Inv P nt g ops tm0 h0 LL ρ0 w0 d0 D up' lo' ρ a w := by
  obtain ⟨up', ys, h1, h2, h3⟩ := split_acts up
  have hsp' : LL = up' ++ (ys ++ lo) := by rw [hsp, h1]; simp
  have hg : Grows (hE h0 lo) (hE h0 (ys ++ lo)) := grows_run hd ys up' hsp' h2
  have hmem : ∀ e ∈ LL, D e.i → e ∈ lo := by
    intro e he hD
    obtain ⟨q, h4, h5⟩ := hdlo _ hD
    have := hd.same (by rw [hsp]; simp [h4]) he h5
    rw [← this]; exact h4
  have hm' : Mono h0 (ys ++ lo) := by
    intro x e y hxy
    rcases List.append_eq_append_iff.1 hxy with ⟨z, rfl, hz⟩ | ⟨z, hz1, hz2⟩
    · exact hm z e y hz
    · cases z with
      | nil => exact hm [] e y (by simpa using hz2.symm)
      | cons z zs =>
        rw [List.cons_append] at hz2
        injection hz2 with hz3 hz4
        subst hz3
        have hok := hd.ent (pre := up' ++ x) (e := e) (post := y) (by rw [hsp', hz1, hz4]; simp)
        have := (hok.grows (h2 e (by rw [hz1]; simp))).next
        rw [hok.h] at this; exact this
  refine ⟨up', ys ++ lo, hsp', fun u c hu => ⟨h3 u c hu, fun hD => ?_⟩, fun i hD => ?_, fun e he hk => ?_, hcl, hr.growP hg, hx.growP hg, hv, hm', fun e he hnD hn => ?_, hde⟩
  · have hc := hmem c (by rw [hsp', hu]; simp) hD
    -- it stands in two places
    have hn := ord_nodup hd.ord
    rw [hsp', hu] at hn
    simp only [List.map_append, List.map_cons, List.append_assoc, List.nodup_append, List.singleton_append, List.nodup_cons] at hn
    have hci : c.i ∈ ys.map (·.i) ++ lo.map (·.i) := List.mem_append.2 (.inr (List.mem_map.2 ⟨c, hc, rfl⟩))
    exact hn.2.1.1 hci
  · obtain ⟨e, h4, h5⟩ := hdlo i hD
    exact ⟨e, by simp [h4], h5⟩
  · rcases List.mem_append.1 he with he | he
    · exact absurd hk (h2 e he)
    · exact hact e he hk
  · rcases List.mem_append.1 he with he | he
    · obtain ⟨y1, y2, hy⟩ := List.append_of_mem he
      have hok := hd.ent (pre := up' ++ y1) (e := e) (post := y2 ++ lo) (by rw [hsp', hy]; simp)
      obtain ⟨o, hpl, hh', hnx⟩ := hok.new hn
      have hge : num (hE h0 lo).next ≤ num e.r.h.next := by
        rw [hok.h]
        have : Mono h0 (y2 ++ lo) := by
          have e1 : ys ++ lo = (y1 ++ [e]) ++ (y2 ++ lo) := by rw [hy]; simp
          rw [e1] at hm'; exact hm'.tail
        exact this.le
      refine ⟨?_, fun o1 o2 h5 h6 => ?_⟩
      · cases hρ : ρ e.r.h.next with
        | none => rfl
        | some l => have := hr.fresh _ l hρ; omega
      · have hg2 : Grows e.r.h' (hE h0 (ys ++ lo)) := by
          have := grows_run (h0 := h0) hd (lo := e :: (y2 ++ lo)) y1 up' (by rw [hsp', hy]; simp) (fun q hq => h2 q (by rw [hy]; simp [hq]))
          have e1 : y1 ++ e :: (y2 ++ lo) = ys ++ lo := by rw [hy]; simp
          rw [e1] at this
          exact this
        rw [hg2.old _ (by omega), h6, add_at, if_pos rfl] at h5
        cases h5; rfl
    · obtain ⟨k1, k2⟩ := hp e he hnD hn
      refine ⟨k1, fun o o' h5 h6 => k2 o o' ?_ h6⟩
      obtain ⟨x, y, hl⟩ := List.append_of_mem he
      have hok := hd.ent (pre := up ++ x) (e := e) (post := y) (by rw [hsp, hl]; simp)
      obtain ⟨_, _, _, hnx⟩ := hok.new hn
      have hlt : num e.r.h.next < num (hE h0 lo).next := by
        rw [hl] at hm
        have := hm.le (x := x) (y := e :: y)
        have e2 : (hE h0 (e :: y)) = e.r.h' := rfl
        rw [e2, ← hl] at this
        omega
      rw [hg.old _ hlt] at h5; exact h5

/-- an action. -/
theorem Inv.act (hd : Drawn P X nt g ops tm0 h0 pres acts LL) (hX : SoundX P X) {u : List Ent} {e : Ent} (hi : Inv P nt g ops tm0 h0 LL ρ0 w0 d0 D (u ++ [e]) lo ρ a w) (hr : ∀ x ∈ e.op.after.toList, Region.binds .any x = true → D x.on) (hf : ∀ x l, ρ0 x = some l → num x < num h0.next)
    {b : Frame} {k : List Item} {cs : List Frame} {rest : List Nat} :
    ∃ up' lo' ρ' uv w', Inv P nt g ops tm0 h0 LL ρ0 w0 d0 (fun j => j = e.i ∨ D j) up' lo' ρ' (a.put e.op.dst uv) w' ∧ Steps P (lone (fr_ b a (.inRegion ops (e.i :: rest) :: k)) cs w) (lone (fr_ b (a.put e.op.dst uv) (.inRegion ops rest :: k)) cs w') := by
  have hsp : LL = u ++ e :: lo := by rw [hi.split]; simp
  have heLL : e ∈ LL := by rw [hsp]; simp
  have hok := hd.ent hsp
  have hopi := hd.opOf heLL
  obtain ⟨hk3, hnd⟩ := hi.head u e rfl
  have hpre : ∀ j, Nat.testBit (preOf pres e.i) j = true → D j := fun j hj => hd.closed hi.closed hopi hr hj
  have hev := hd.evs hi.vals hi.closed hsp hpre hnd
  have hwant := hd.wanted hi.vals hsp hpre
  obtain ⟨_, _, hop, _⟩ := soO_inv hok.so
  have hop' := (odR_opO (P := P) (od := odO (fun t => lkT g t (lo.map (·.op.dst)) 0)) (o := e.op)).trans hop
  obtain ⟨ρ', w', uv, v1, v2, v3, v4⟩ : ∃ ρ' w' uv, VR ρ' e.r.v uv ∧ HR P ρ' e.r.h' w' ∧ Ext ρ (hE h0 lo) w ρ' e.r.h' w' ∧
      Steps P (lone (fr_ b a (.inRegion ops (e.i :: rest) :: k)) cs w) (lone (fr_ b (a.put e.op.dst uv) (.inRegion ops rest :: k)) cs w') := by
    rcases hok.run with ⟨_, hw, hv, hh⟩ | ⟨_, hw, hrun, _⟩
    · have hst := st_op_skip (P := P) (b := b) (a := a) (k := k) (cs := cs) (w := w) (ops := ops) (i := e.i) (rest := rest) (by
        rw [hopi, Option.map_some, Option.getD_some, ← hwant]; exact hw)
      rw [hopi, Option.bind_some] at hst
      refine ⟨ρ, w, undef, by rw [hv]; exact VR_und _, ?_, ?_, .one hst⟩
      · rw [hh, hok.h]; exact hi.hr
      · rw [hh, hok.h]; exact Ext.refl _ _ _
    · rw [hok.h] at hrun
      exact op_val hX hopi (by rw [← hwant]; exact hw) hop' hev hi.hr hrun
  have hlow : ∀ q ∈ lo, IsNew q → num q.r.h.next < num (hE h0 lo).next := fun q hq hn => (hi.below hd hq hn).1
  obtain ⟨up', lo', hinv⟩ := extend (ρ0 := ρ0) (w0 := w0) (d0 := d0) (up := u) (lo := e :: lo) (D := fun j => j = e.i ∨ D j) (a := a.put e.op.dst uv) hd hsp (fun i hD => by
      rcases hD with rfl | hD
      · exact ⟨e, by simp, rfl⟩
      · obtain ⟨q, h1, h2⟩ := hi.dlo i hD
        exact ⟨q, by simp [h1], h2⟩)
    (fun q hq hk => by
      rcases List.mem_cons.1 hq with rfl | hq
      · exact .inl rfl
      · exact .inr (hi.actD q hq hk))
    (hi.closed.step hopi hr) v2 (hi.ext.trans v3 hf) (hd.put hi.vals heLL v3.le v1)
    (fun x q y hl => by
      cases x with
      | nil => cases hl; exact v3.next
      | cons z x => cases hl; exact hi.mono x q y rfl)
    (fun q hq hqD hn => by
      rcases List.mem_cons.1 hq with rfl | hq
      · exact absurd (.inl rfl) hqD
      · obtain ⟨k1, k2⟩ := hi.pend q hq (fun hD => hqD (.inr hD)) hn
        have hlt := hlow q hq hn
        refine ⟨?_, fun o o' h5 h6 => k2 o o' ?_ h6⟩
        · cases hp : ρ' q.r.h.next with
          | none => rfl
          | some l => have := v3.new _ l hp k1; omega
        · have h5 : e.r.h'.at_ q.r.h.next = some o := h5
          rcases v3.dead _ k1 hlt with h7 | h7
          · rw [← h7]; exact h5
          · rw [h7] at h5; cases h5)
    (by rw [put_defers]; exact hi.defers)
  exact ⟨up', lo', ρ', uv, w', hinv, v4⟩

/-- one operation, whichever. -/
theorem Inv.step (hd : Drawn P X nt g ops tm0 h0 pres acts LL) (hX : SoundX P X) (hi : Inv P nt g ops tm0 h0 LL ρ0 w0 d0 D up lo ρ a w) (hf : ∀ x l, ρ0 x = some l → num x < num h0.next) {i : Nat} {o : Oper} (ho : ops[i]? = some o) (hnd : ¬ D i) (hr : ∀ x ∈ o.after.toList, Region.binds .any x = true → D x.on)
    {b : Frame} {k : List Item} {cs : List Frame} {rest : List Nat} :
    ∃ up' lo' ρ' a' w', Inv P nt g ops tm0 h0 LL ρ0 w0 d0 (fun j => j = i ∨ D j) up' lo' ρ' a' w' ∧ Steps P (lone (fr_ b a (.inRegion ops (i :: rest) :: k)) cs w) (lone (fr_ b a' (.inRegion ops rest :: k)) cs w') := by
  have hin : i < ops.size := by
    rcases Nat.lt_or_ge i ops.size with h | h
    · exact h
    · simp [Array.getElem?_eq_none h] at ho
  obtain ⟨e, heLL, rfl⟩ := hd.all i hin
  have heo := hd.opOf heLL
  rw [ho] at heo; cases heo
  have hpre : ∀ j, Nat.testBit (preOf pres e.i) j = true → D j := fun j hj => hd.closed hi.closed ho hr hj
  rcases List.mem_append.1 (by rw [← hi.split]; exact heLL : e ∈ up ++ lo) with he | he
  · -- the action ahead of which all others are done
    rcases List.eq_nil_or_concat up with rfl | ⟨u, c, rfl⟩
    · cases he
    rw [List.concat_eq_append] at *
    have hce : c = e := by
      refine Classical.byContradiction (fun hne => ?_)
      have heu : e ∈ u := by
        rcases List.mem_append.1 he with h | h
        · exact h
        · simp at h; exact absurd h.symm hne
      obtain ⟨u1, u2, hu⟩ := List.append_of_mem heu
      obtain ⟨hc3, hcD⟩ := hi.head u c rfl
      have hsp : LL = u1 ++ e :: (u2 ++ c :: lo) := by rw [hi.split, hu]; simp
      have hcLL : c ∈ LL := by rw [hsp]; simp
      have := (hd.ordE hsp).2.2.2 c (by simp) ((hd.isAct c hcLL).2 hc3)
      exact hcD (hpre _ this)
    subst hce
    obtain ⟨up', lo', ρ', uv, w', h1, h2⟩ := hi.act (b := b) (k := k) (cs := cs) (rest := rest) hd hX hr hf
    exact ⟨up', lo', ρ', _, w', h1, h2⟩
  · by_cases hn : IsNew e
    · have hw : Region.wanted e.op (yielded ops a.tmps) = true := by
        obtain ⟨x, y, hl⟩ := List.append_of_mem he
        have hsp : LL = (up ++ x) ++ e :: y := by rw [hi.split, hl]; simp
        rw [← hd.wanted hi.vals hsp hpre]
        rcases (hd.ent hsp).run with ⟨hoff, _⟩ | ⟨_, hw, _⟩
        · rw [hn.2] at hoff; cases hoff
        · exact hw
      obtain ⟨ρ', uv, w', h1, h2⟩ := hi.newmem (b := b) (k := k) (cs := cs) (rest := rest) hd hX he hn hnd hr hw
      exact ⟨up, lo, ρ', _, w', h1, h2⟩
    · obtain ⟨x, y, hl⟩ := List.append_of_mem he
      have hsp : LL = (up ++ x) ++ e :: y := by rw [hi.split, hl]; simp
      have hok := hd.ent hsp
      have hev := hd.evs hi.vals hi.closed hsp hpre hnd
      have hwant := hd.wanted hi.vals hsp hpre
      obtain ⟨_, _, hop, _⟩ := soO_inv hok.so
      have hop' := (odR_opO (P := P) (od := odO (fun t => lkT g t (y.map (·.op.dst)) 0)) (o := e.op)).trans hop
      rcases hok.run with ⟨_, hw, hv, hh⟩ | ⟨hon, hw, hrun, _⟩
      · have hst := st_op_skip (P := P) (b := b) (a := a) (k := k) (cs := cs) (w := w) (ops := ops) (i := e.i) (rest := rest) (by
          rw [ho, Option.map_some, Option.getD_some, ← hwant]; exact hw)
        rw [ho, Option.bind_some] at hst
        exact ⟨up, lo, ρ, _, w, hi.quiet hd he hn hr hf (by rw [hv]; exact VR_und _) hi.hr (Ext.refl _ _ _), .one hst⟩
      · -- the memory of the moment
        have hnow : evS e.r.o.op.op X (evOd e.r.loc e.r.tm) (hE h0 lo) = some (.val e.r.v (hE h0 lo)) := by
          rcases kind_cases e.r.o.op.op with h | h | h | h
          · exact (kind0 h hrun).2 _
          · have hc := hd.check (up := up) (x := x) (y := y) (by rw [hi.split, hl]) (fun u c hu => (hi.head u c hu).1) h hon (fun q hq hk => by
              cases hb : Nat.testBit (preOf pres q.i) e.i with
              | false => rfl
              | true =>
                have hqlo : q ∈ lo := by rw [hl]; simp [hq]
                exact absurd (hd.closed' hi.closed (hd.opOf (by rw [hi.split]; simp [hqlo])) (hi.actD q hqlo hk) hb) hnd)
            rw [← hl] at hc
            unfold chkAt at hc
            split at hc
            · rename_i v h2 he2
              have := SV.same_eq _ _ hc
              subst this
              have := kind1 h he2
              subst this
              exact he2
            · cases hc
          · exact absurd ⟨h, hon⟩ hn
          · exact absurd (hi.actD e he h) hnd
        obtain ⟨ρ', w', uv, v1, v2, v3, v4⟩ := op_val (b := b) (k := k) (cs := cs) (rest := rest) hX ho (by rw [← hwant]; exact hw) hop' hev hi.hr hnow
        exact ⟨up, lo, ρ', _, w', hi.quiet hd he hn hr hf v1 v2 v3, v4⟩

end Go.Sh

/-
  Drawn regions are sound, and so is the whole run.
-/
namespace Go.Sh
set_option linter.unusedVariables false
variable {P : Program} {X : Ctx} {nt g : Nat} {ops : Array Oper} {tm0 : T SV} {h0 : H} {pres : List Nat} {acts : Nat} {LL : List Ent}
variable {ρ0 : Rho} {w0 w : World} {d0 : List Deferred} {D : Nat → Prop} {up lo : List Ent} {ρ : Rho} {a : Act}

theorem filter_lt {p q : Nat → Bool} : ∀ (l : List Nat), (∀ x ∈ l, q x = true → p x = true) → (∃ x ∈ l, p x = true ∧ q x = false) → (l.filter q).length < (l.filter p).length
  | [], h, ⟨x, hx, _⟩ => by cases hx
  | y :: l, h, ⟨x, hx, h1, h2⟩ => by
    have hle : ∀ (l : List Nat), (∀ x ∈ l, q x = true → p x = true) → (l.filter q).length ≤ (l.filter p).length := by
      intro l
      induction l with
      | nil => intro _; simp
      | cons z l ih =>
        intro h
        have := ih (fun x hx => h x (by simp [hx]))
        cases hq : q z with
        | true => rw [List.filter_cons_of_pos hq, List.filter_cons_of_pos (h z (by simp) hq)]; simp; exact this
        | false =>
          rw [List.filter_cons_of_neg (by simp [hq])]
          refine Nat.le_trans this ?_
          cases hp : p z with
          | true => rw [List.filter_cons_of_pos hp]; simp
          | false => rw [List.filter_cons_of_neg (by simp [hp])]; exact Nat.le_refl _
    rcases List.mem_cons.1 hx with rfl | hx
    · rw [List.filter_cons_of_neg (by simp [h2]), List.filter_cons_of_pos h1]
      have := hle l (fun z hz => h z (by simp [hz]))
      simp; omega
    · have ih := filter_lt l (fun z hz => h z (by simp [hz])) ⟨x, hx, h1, h2⟩
      cases hq : q y with
      | true => rw [List.filter_cons_of_pos hq, List.filter_cons_of_pos (h y (by simp) hq)]; simp; exact ih
      | false =>
        rw [List.filter_cons_of_neg (by simp [hq])]
        cases hp : p y with
        | true => rw [List.filter_cons_of_pos hp]; simp; omega
        | false => rw [List.filter_cons_of_neg (by simp [hp])]; exact ih

def unl (ops : Array Oper) (listed : Array Bool) : Nat := ((List.range ops.size).filter fun i => !listed.getD i true).length

def isL (listed : Array Bool) : Nat → Prop := fun i => listed.getD i false = true

theorem getD_true_false {listed : Array Bool} {i : Nat} (h : listed.getD i true = false) : listed.getD i false = false := by
  rw [Array.getD_eq_getD_getElem?] at *
  cases hl : listed[i]? with
  | none => rfl
  | some b => rw [hl] at h; exact h

theorem all_listed (hed : edgesOk pres ops.toList 0 = true) {listed : Array Bool} (hsz : listed.size = ops.size) (hr : Region.ready .any ops listed = []) : ∀ (n i : Nat), i < n → i < ops.size → isL listed i
  | 0, i, h, _ => by omega
  | n + 1, i, h, hi => by
    refine Classical.byContradiction (fun hn => ?_)
    have hlt : i < listed.size := by omega
    have h1 : listed.getD i true = false := by
      unfold isL at hn
      rw [Array.getD_eq_getD_getElem?, Array.getElem?_eq_getElem hlt] at *
      simpa using hn
    have hm : i ∈ Region.ready .any ops listed := by
      rw [mem_ready]
      refine ⟨h1, ops[i], Array.getElem?_eq_getElem hi, fun e he hb => ?_⟩
      have hs := (edgesOk_spec hed i ops[i] (by simp [hi])).1 e (by simpa using he) hb
      rw [Nat.zero_add] at hs
      exact all_listed hed hsz hr n e.on (by omega) (by omega)
    rw [hr] at hm; cases hm

theorem sched (hd : Drawn P X nt g ops tm0 h0 pres acts LL) (hX : SoundX P X) (hf : ∀ x l, ρ0 x = some l → num x < num h0.next) {b : Frame} {k : List Item} {cs : List Frame} :
    ∀ (fuel t : Nat) (listed : Array Bool) (up lo : List Ent) (ρ : Rho) (a : Act) (w : World), listed.size = ops.size → unl ops listed ≤ fuel → Inv P nt g ops tm0 h0 LL ρ0 w0 d0 (isL listed) up lo ρ a w →
      ∃ up' lo' ρ' a' w' D', (∀ i, i < ops.size → D' i) ∧ Inv P nt g ops tm0 h0 LL ρ0 w0 d0 D' up' lo' ρ' a' w' ∧
        Steps P (lone (fr_ b a (.inRegion ops (Region.linearise.go .any ops fuel t listed []) :: k)) cs w) (lone (fr_ b a' (.inRegion ops [] :: k)) cs w')
  | 0, t, listed, up, lo, ρ, a, w, hsz, hu, hi => by
    refine ⟨up, lo, ρ, a, w, isL listed, fun i hlt => ?_, hi, by simp [Region.linearise.go]; exact .refl _ _⟩
    have h0 : unl ops listed = 0 := by omega
    unfold unl at h0
    rw [List.length_eq_zero_iff, List.filter_eq_nil_iff] at h0
    have := h0 i (by simpa using hlt)
    have hlt' : i < listed.size := by omega
    unfold isL
    rw [Array.getD_eq_getD_getElem?, Array.getElem?_eq_getElem hlt'] at *
    simpa using this
  | fuel + 1, t, listed, up, lo, ρ, a, w, hsz, hu, hi => by
    have hgo : Region.linearise.go .any ops (fuel + 1) t listed [] = match (Region.ready .any ops listed)[t % (Region.ready .any ops listed).length]? with
        | some i => i :: Region.linearise.go .any ops fuel (t / (Region.ready .any ops listed).length) (listed.setIfInBounds i true) []
        | none => [] := by
      conv => lhs; unfold Region.linearise.go
      show (match (Region.ready .any ops listed)[t % (Region.ready .any ops listed).length]? with
        | some i => Region.linearise.go .any ops fuel (t / (Region.ready .any ops listed).length) (listed.setIfInBounds i true) [i]
        | none => ([] : List Nat).reverse) = _
      split
      · rename_i i _
        rw [linearise_go_acc .any ops fuel _ _ [i]]; rfl
      · rfl
    rw [hgo]
    split
    · rename_i i hsel
      have hm := List.mem_of_getElem? hsel
      rw [mem_ready] at hm
      obtain ⟨h1, o, ho, hall⟩ := hm
      have hin : i < ops.size := by
        rcases Nat.lt_or_ge i ops.size with h | h
        · exact h
        · simp [Array.getElem?_eq_none h] at ho
      have hnd : ¬ isL listed i := by
        intro h; unfold isL at h; rw [getD_true_false h1] at h; cases h
      obtain ⟨up', lo', ρ', a', w', h2, h3⟩ := hi.step (b := b) (k := k) (cs := cs) (rest := Region.linearise.go .any ops fuel (t / (Region.ready .any ops listed).length) (listed.setIfInBounds i true) []) hd hX hf ho hnd (fun e he hb => hall e (by simpa using he) hb)
      have hDeq : (fun j => j = i ∨ isL listed j) = isL (listed.setIfInBounds i true) := by
        funext j
        apply propext
        unfold isL
        by_cases hij : i = j
        · subst hij
          have : i < listed.size := by omega
          simp [this]
        · rw [getD_set_ne false hij]
          constructor
          · rintro (h | h)
            · exact absurd h.symm hij
            · exact h
          · exact .inr
      rw [hDeq] at h2
      have hlt : unl ops (listed.setIfInBounds i true) < unl ops listed := by
        unfold unl
        refine filter_lt _ (fun x hx hq => ?_) ⟨i, by simpa using hin, by rw [h1]; rfl, ?_⟩
        · by_cases hix : i = x
          · subst hix
            have : i < listed.size := by omega
            simp [this] at hq
          · rw [getD_set_ne true hix] at hq; exact hq
        · have : i < listed.size := by omega
          simp [this]
      obtain ⟨up2, lo2, ρ2, a2, w2, D2, k1, k2, k3⟩ := sched hd hX hf fuel _ _ up' lo' ρ' a' w' (by simpa using hsz) (by omega) h2
      exact ⟨up2, lo2, ρ2, a2, w2, D2, k1, k2, h3.trans k3⟩
    · rename_i hsel
      have hr : Region.ready .any ops listed = [] := by
        cases hr : Region.ready .any ops listed with
        | nil => rfl
        | cons x l =>
          rw [hr] at hsel
          have : t % (x :: l).length < (x :: l).length := Nat.mod_lt _ (by simp)
          rw [List.getElem?_eq_getElem this] at hsel; cases hsel
      exact ⟨up, lo, ρ, a, w, isL listed, fun i hlt => all_listed hd.edges hsz hr (i + 1) i (by omega) hlt, hi, .refl _ _⟩

theorem actBits_spec : ∀ (ord : List Nat) (l : List SO) (j : Nat), Nat.testBit (actBits ord l) j = true ↔ ∃ (k : Nat) (x : SO), ord[k]? = some j ∧ l[k]? = some x ∧ kindOf x.op = 3
  | [], l, j => by
    constructor
    · intro h; simp [actBits] at h
    · rintro ⟨k, x, h1, _⟩; simp at h1
  | i :: ord, [], j => by
    constructor
    · intro h; simp [actBits] at h
    · rintro ⟨k, x, _, h2, _⟩; simp at h2
  | i :: ord, x :: l, j => by
    have ih := actBits_spec ord l j
    have hsucc : (∃ (k : Nat) (y : SO), (i :: ord)[k]? = some j ∧ (x :: l)[k]? = some y ∧ kindOf y.op = 3) ↔ (i = j ∧ kindOf x.op = 3) ∨ ∃ (k : Nat) (y : SO), ord[k]? = some j ∧ l[k]? = some y ∧ kindOf y.op = 3 := by
      constructor
      · rintro ⟨k, y, h1, h2, h3⟩
        cases k with
        | zero => simp at h1 h2; subst h1; subst h2; exact .inl ⟨rfl, h3⟩
        | succ k => exact .inr ⟨k, y, by simpa using h1, by simpa using h2, h3⟩
      · rintro (⟨h1, h3⟩ | ⟨k, y, h1, h2, h3⟩)
        · exact ⟨0, x, by simp [h1], by simp, h3⟩
        · exact ⟨k + 1, y, by simpa using h1, by simpa using h2, h3⟩
    rw [hsucc, ← ih]
    simp only [actBits]
    by_cases hk : kindOf x.op = 3
    · rw [beq_true hk]
      simp only [cond_true, testBit_lor, testBit_one, Bool.or_eq_true, decide_eq_true_eq]
      constructor
      · rintro (h | h)
        · exact .inl ⟨h.symm, hk⟩
        · exact .inr h
      · rintro (⟨h, _⟩ | h)
        · exact .inl h.symm
        · exact .inr h
    · rw [beq_false hk]
      simp only [cond_false]
      constructor
      · exact .inr
      · rintro (⟨_, h⟩ | h)
        · exact absurd h hk
        · exact h

theorem tmR_tmE : ∀ (L : List Ent), Tr P X nt g ops tm0 h0 L → tmR tm0 (L.reverse.map (·.r)) = tmE tm0 L
  | [], _ => rfl
  | e :: L, h => by
    have app : ∀ (l : List Rec) (c : Rec) (t : T SV), tmR t (l ++ [c]) = setT c.tm c.o.op.dst c.v := by
      intro l c
      induction l with
      | nil => intro t; rfl
      | cons d l ih => intro t; exact ih _
    rw [List.reverse_cons, List.map_append, List.map_cons, List.map_nil, app]
    rw [h.2.tm]; rfl

theorem draw_ok (hmix : P.follows .mixedOrders = true) (hX : SoundX P X) : DrawOK P X := by
  intro nt g b k id ops l s s' e ρ cs a w hreg hrun hl
  unfold dregO at hreg
  simp only at hreg
  split at hreg
  case h_2 => cases hreg
  rename_i pl hpl
  split at hreg
  case h_2 => cases hreg
  rename_i sl hsl
  simp only [cond_eq_ite] at hreg
  split at hreg
  case isFalse => cases hreg
  rename_i hch
  cases hreg
  simp only [Bool.and_eq_true] at hch
  obtain ⟨⟨⟨c1, c2⟩, c3⟩, c4⟩ := hch
  generalize hpres : preBits [] ops.toList = pres at *
  generalize hord : greedy pres ops.toList.length (actsM P ops.toList 0) ops.toList.length 0 = ord at *
  unfold runDraw at hrun
  split at hrun
  case h_2 => cases hrun
  rename_i rs hrs
  split at hrun
  case h_2 => cases hrun
  rename_i hchk
  cases hrun
  obtain ⟨L, k1, k2, k3, k4, k5⟩ := trace_of (P := P) (X := X) (nt := nt) (g := g) (ops := ops) (tm0 := s.tm) (h0 := s.h) (pres := pres) (acts := actBits ord sl) ord pl sl [] rs hpl (by simpa using hsl) (by simpa [tmE, hE] using hrs) trivial
  rw [List.append_nil] at k1
  have hOrd := ordOk_spec ord [] c2 trivial
  rw [List.append_nil] at hOrd
  have hLi : L.reverse.map (·.i) = ord.reverse := by rw [← k2, List.map_reverse]
  have hd : Drawn P X nt g ops s.tm s.h pres (actBits ord sl) L.reverse := by
    refine ⟨k1, by rw [hLi]; simpa using hOrd, fun i hi => ?_, c1, c4, fun q hq => ?_, fun pre q post hq => ?_, ?_⟩
    · rw [iota_eq] at c3
      have := List.all_eq_true.1 c3 i (by simpa using hi)
      rw [bitsOf_spec, ← k2, List.mem_map] at this
      obtain ⟨q, h1, h2⟩ := this
      exact ⟨q, by simpa using h1, h2⟩
    · rw [actBits_spec]
      have hq' : q ∈ L := by simpa using hq
      constructor
      · rintro ⟨j, x, h1, h2, h3⟩
        rw [← k2, List.getElem?_map] at h1
        obtain ⟨q2, h4, h5⟩ := map_some h1
        rw [← k4, List.getElem?_map, h4] at h2
        simp only [Option.map_some, Option.some.injEq] at h2
        have hnd : (L.map (·.i)).Nodup := by
          have := ord_nodup hOrd
          rw [k2]; exact (List.reverse_perm ord).nodup_iff.1 this
        obtain ⟨j2, h6⟩ := List.getElem?_of_mem hq'
        have hjj : j = j2 := by
          have e1 : (L.map (·.i))[j]? = (L.map (·.i))[j2]? := by rw [List.getElem?_map, List.getElem?_map, h4, h6]; simp [h5]
          have hjl : j < (L.map (·.i)).length := by
            have := (List.getElem?_eq_some_iff.1 h4).1; simpa using this
          exact (List.getElem?_inj hjl hnd).1 e1
        subst hjj
        rw [h4] at h6; cases h6
        rw [h2]; exact h3
      · intro h3
        obtain ⟨j, h6⟩ := List.getElem?_of_mem hq'
        exact ⟨j, q.r.o.op, by rw [← k2, List.getElem?_map, h6]; rfl, by rw [← k4, List.getElem?_map, h6]; rfl, h3⟩
    · exact k5 pre q post (by simpa using hq)
    · rw [List.reverse_reverse, k3]; exact hchk
  -- the machine
  have hst := st_region_draw (P := P) (b := b) (a := a) (k := k) (cs := cs) (w := w) (id := id) (ops := ops)
  have hsch : ∀ t, Region.schedule (P.follows .mixedOrders) ops t = Region.linearise.go .any ops ops.size t (Array.replicate ops.size false) [] := by
    intro t; unfold Region.schedule; rw [hmix]; rfl
  rw [hsch] at hst
  have hw' : ({ w with drawn := w.drawn + 1 } : World) = w.drew := rfl
  rw [hw'] at hst
  have hvals : Vals g nt s.tm L.reverse (fun _ => False) ρ a := ⟨hl.tr.size, fun q _ h => h.elim, fun t ht _ => hl.tr.at_ t ht⟩
  obtain ⟨up, lo, hinv⟩ := extend (ρ0 := ρ) (w0 := w) (d0 := a.defers) (up := L.reverse) (lo := []) (D := fun _ => False) hd (by simp) (fun i h => h.elim) (fun q hq => by cases hq) (fun i o _ h => h.elim) (hl.hr.drew) Ext.drew hvals (fun x q y h => by cases x <;> cases h) (fun q hq => by cases hq) rfl
  have hD0 : (fun _ => False) = isL (Array.replicate ops.size false) := by
    funext i
    apply propext
    unfold isL
    constructor
    · exact False.elim
    · intro h
      rw [Array.getD_eq_getD_getElem?, Array.getElem?_replicate] at h
      split at h <;> simp at h
  rw [hD0] at hinv
  obtain ⟨up2, lo2, ρ2, a2, w2, D2, q1, q2, q3⟩ := sched (b := b) (k := k) (cs := cs) hd hX hl.hr.fresh ops.size (w.tape w.drawn (.order b.fn id)) (Array.replicate ops.size false) up lo ρ a w.drew (by simp) (by unfold unl; exact Nat.le_trans (List.length_filter_le _ _) (by simp)) hinv
  have hup : up2 = [] := by
    rcases List.eq_nil_or_concat up2 with h | ⟨u, c, h⟩
    · exact h
    · rw [List.concat_eq_append] at h
      obtain ⟨_, hnd⟩ := q2.head u c h
      obtain ⟨pre, post, hp⟩ := List.append_of_mem (by rw [q2.split, h]; simp : c ∈ L.reverse)
      exact absurd (q1 _ (hd.ordE hp).1) hnd
  subst hup
  have hlo : L.reverse = lo2 := by simpa using q2.split
  subst hlo
  have htm : tmR s.tm rs = tmE s.tm L.reverse := by rw [← tmR_tmE L.reverse k1, List.reverse_reverse, k3]
  have hh : hR s.h rs = hE s.h L.reverse := by
    have := hR_hE (h0 := s.h) [] L.reverse
    rw [List.reverse_reverse, k3, List.append_nil] at this
    exact this
  rw [htm, hh]
  refine ⟨ρ2, cs, a2, w2, .norm, .norm, ⟨⟨q2.vals.size, hl.tr.small, fun t ht => ?_⟩, ?_, hl.pr.mono q2.ext.le, q2.hr⟩, q2.ext, CsTo.refl _ _, .head hst (q3.trans (.one st_region_end))⟩
  · rcases tmE_get (tm0 := s.tm) (LL := L.reverse) (fun q hq => (hd.dst hq).1) ht with ⟨q, h1, h2, h3⟩ | ⟨h1, h2⟩
    · rw [h3]
      obtain ⟨pre, post, hp⟩ := List.append_of_mem h1
      exact q2.vals.vals q h1 (q1 _ (hd.ordE hp).1) t h2
    · rw [h2]
      exact q2.vals.kept t ht (fun q hq hqd => absurd hqd (h1 q hq))
  · show DRs ρ2 s.dfs a2.defers
    rw [q2.defers]; exact hl.dr.mono q2.ext.le

/-- THE RUN IS SOUND: what the shadow's call answers, the program's call comes to. -/
theorem run_sound (hmix : P.follows .mixedOrders = true) {F : FuncId → Option SFunc} {M : TypeId → String → Option (FuncId × Option (Nat × Bool))} {S : FuncId → Option (List SV → H → Option CR)} (hF : TabOK P F) (hM : ∀ t n r, M t n = some r → methO P t n = some r) (hS : SumOK P S) (lf n : Nat) :
    SoundX P (ctx F M S lf n) := ctx_sound hF hM hS (fun X hX => draw_ok hmix hX) lf n

end Go.Sh

/-
  Tables of functions; methods; summaries by the run itself.
-/
namespace Go.Sh
set_option linter.unusedVariables false

inductive FT where
  | nil
  | node (l : FT) (k : Nat) (v : SFunc) (r : FT)

def FT.find : FT → Nat → Option SFunc
  | .nil => fun _ => none
  | .node l k v r => fun f => bif Nat.beq f k then some v else bif Nat.blt f k then l.find f else r.find f

def FT.All (p : Nat → SFunc → Prop) : FT → Prop
  | .nil => True
  | .node l k v r => l.All p ∧ p k v ∧ r.All p

theorem FT.find_all {p : Nat → SFunc → Prop} : ∀ {t : FT} {f : Nat} {v : SFunc}, t.All p → t.find f = some v → p f v
  | .nil, f, v, h, hf => by simp [FT.find] at hf
  | .node l k x r, f, v, h, hf => by
    simp only [FT.find] at hf
    by_cases hk : f = k
    · subst hk
      rw [beq_true rfl] at hf
      simp only [cond_true, Option.some.injEq] at hf; subst hf
      exact h.2.1
    · rw [beq_false hk] at hf
      simp only [cond_false] at hf
      cases hb : Nat.blt f k with
      | true => rw [hb] at hf; exact FT.find_all h.1 hf
      | false => rw [hb] at hf; exact FT.find_all h.2.2 hf

def FuncOK (P : Program) (f : Nat) (sf : SFunc) : Prop := ∃ fn, P.funcs[f]? = some fn ∧ funcO P fn = some sf ∧ fn.name ≠ "runtime.NumGoroutine"

theorem tab_ok {P : Program} {t : FT} (h : t.All (FuncOK P)) : TabOK P t.find := fun f sf hf => FT.find_all h hf

/-- methods, by a list. -/
abbrev ML := List (Nat × String × (FuncId × Option (Nat × Bool)))
def mfind : ML → TypeId → String → Option (FuncId × Option (Nat × Bool))
  | [] => fun _ _ => none
  | e :: r => fun t n => bif Nat.beq e.1 t && e.2.1 == n then some e.2.2 else mfind r t n

theorem mfind_ok {P : Program} : ∀ {l : ML}, (∀ e ∈ l, methO P e.1 e.2.1 = some e.2.2) → ∀ t n r, mfind l t n = some r → methO P t n = some r
  | [], h, t, n, r, hr => by simp [mfind] at hr
  | e :: l, h, t, n, r, hr => by
    simp only [mfind] at hr
    cases hb : (Nat.beq e.1 t && e.2.1 == n) with
    | true =>
      rw [hb] at hr
      simp only [cond_true, Option.some.injEq] at hr
      rw [Bool.and_eq_true] at hb
      have h1 := Nat.eq_of_beq_eq_true hb.1
      have h2 : e.2.1 = n := by simpa using hb.2
      rw [← h1, ← h2, ← hr]
      exact h e (by simp)
    | false => rw [hb] at hr; exact mfind_ok (fun x hx => h x (by simp [hx])) t n r hr

/-- no summary. -/
def noS : FuncId → Option (List SV → H → Option CR) := fun _ => none
theorem noS_ok (P : Program) : SumOK P noS := fun h => by simp [noS] at h

end Go.Sh

/-
  The run once more, in the form that the kernel runs fast; and that it is the same.
-/
namespace Go.Sh.K
set_option linter.unusedVariables false
noncomputable section

@[reducible] def bb {α : Type} (b : Bool) (f t : α) : α := Bool.rec (motive := fun _ => α) f t b
@[reducible] def oo {α β : Type} (x : Option α) (d : β) (f : α → β) : β := Option.rec (motive := fun _ => β) d f x

structure PO where
  b : Pos
  o : Nat
structure SlO where
  b : Pos
  o : Nat
  n : Nat
  c : Nat
structure IO_ where
  k : IntKind
  n : Int
structure SO_ where
  n : Nat
  v : Nat
structure FnO where
  f : Fn
  a : SV
  c : SV
structure IfO where
  t : Nat
  v : SV
structure CoO where
  v : SV
  l : SV
structure ByO where
  n : Nat
  v : Nat
  l : SV
structure RowO where
  l : SV
  sz : Nat
  g : Nat
  sh : Bool
  fam : Pos

def ptrV (x : SV) : Option PO :=
  SV.rec (motive := fun _ => Option PO) (fun _ => none) (fun _ _ => none) (fun _ _ => none) (fun b o => some ⟨b, o⟩) none (fun _ _ _ _ => none) none none (fun _ => none) (fun _ => none) none (fun _ _ _ _ _ => none) none (fun _ _ _ => none) none (fun _ _ => none) (fun _ _ => none) none (fun _ _ _ _ => none) (fun _ _ _ _ => none) x

def slcV (x : SV) : Option SlO :=
  SV.rec (motive := fun _ => Option SlO) (fun _ => none) (fun _ _ => none) (fun _ _ => none) (fun _ _ => none) none (fun b o n c => some ⟨b, o, n, c⟩) none none (fun _ => none) (fun _ => none) none (fun _ _ _ _ _ => none) none (fun _ _ _ => none) none (fun _ _ => none) (fun _ _ => none) none (fun _ _ _ _ => none) (fun _ _ _ _ => none) x

def intV (x : SV) : Option IO_ :=
  SV.rec (motive := fun _ => Option IO_) (fun _ => none) (fun k n => some ⟨k, n⟩) (fun _ _ => none) (fun _ _ => none) none (fun _ _ _ _ => none) none none (fun _ => none) (fun _ => none) none (fun _ _ _ _ _ => none) none (fun _ _ _ => none) none (fun _ _ => none) (fun _ _ => none) none (fun _ _ _ _ => none) (fun _ _ _ _ => none) x

def boolV (x : SV) : Option Bool :=
  SV.rec (motive := fun _ => Option Bool) (fun b => some b) (fun _ _ => none) (fun _ _ => none) (fun _ _ => none) none (fun _ _ _ _ => none) none none (fun _ => none) (fun _ => none) none (fun _ _ _ _ _ => none) none (fun _ _ _ => none) none (fun _ _ => none) (fun _ _ => none) none (fun _ _ _ _ => none) (fun _ _ _ _ => none) x

def strV (x : SV) : Option SO_ :=
  SV.rec (motive := fun _ => Option SO_) (fun _ => none) (fun _ _ => none) (fun n v => some ⟨n, v⟩) (fun _ _ => none) none (fun _ _ _ _ => none) none none (fun _ => none) (fun _ => none) none (fun _ _ _ _ _ => none) none (fun _ _ _ => none) none (fun _ _ => none) (fun _ _ => none) none (fun _ _ _ _ => none) (fun _ _ _ _ => none) x

def mapV (x : SV) : Option Pos :=
  SV.rec (motive := fun _ => Option Pos) (fun _ => none) (fun _ _ => none) (fun _ _ => none) (fun _ _ => none) none (fun _ _ _ _ => none) none none (fun _ => none) (fun b => some b) none (fun _ _ _ _ _ => none) none (fun _ _ _ => none) none (fun _ _ => none) (fun _ _ => none) none (fun _ _ _ _ => none) (fun _ _ _ _ => none) x

def aggV (x : SV) : Option SV :=
  SV.rec (motive := fun _ => Option SV) (fun _ => none) (fun _ _ => none) (fun _ _ => none) (fun _ _ => none) none (fun _ _ _ _ => none) none none (fun _ => none) (fun _ => none) none (fun _ _ _ _ _ => none) none (fun _ _ _ => none) none (fun l _ => some l) (fun _ _ => none) none (fun _ _ _ _ => none) (fun _ _ _ _ => none) x

def tupV (x : SV) : Option SV :=
  SV.rec (motive := fun _ => Option SV) (fun _ => none) (fun _ _ => none) (fun _ _ => none) (fun _ _ => none) none (fun _ _ _ _ => none) none none (fun _ => none) (fun _ => none) none (fun _ _ _ _ _ => none) none (fun _ _ _ => none) none (fun _ _ => none) (fun l _ => some l) none (fun _ _ _ _ => none) (fun _ _ _ _ => none) x

def lenV (x : SV) : Option Nat :=
  SV.rec (motive := fun _ => Option Nat) (fun _ => none) (fun _ _ => none) (fun _ _ => none) (fun _ _ => none) none (fun _ _ n _ => some n) (some 0) (some 0) (fun n => some n) (fun _ => none) none (fun _ _ _ _ _ => none) none (fun _ _ _ => none) none (fun _ _ => none) (fun _ _ => none) none (fun _ _ _ _ => none) (fun _ _ _ _ => none) x

def flatV (x : SV) : Bool :=
  SV.rec (motive := fun _ => Bool) (fun _ => true) (fun _ _ => true) (fun _ _ => true) (fun _ _ => true) true (fun _ _ _ _ => true) true true (fun _ => true) (fun _ => true) true (fun _ _ _ _ _ => true) true (fun _ _ _ => true) true (fun _ _ => false) (fun _ _ => false) true (fun _ _ _ _ => true) (fun _ _ _ _ => true) x

def fnV (x : SV) : Option FnO :=
  SV.rec (motive := fun _ => Option FnO)
    (fun _ => none) (fun _ _ => none) (fun _ _ => none) (fun _ _ => none) none (fun _ _ _ _ => none) none none (fun _ => none)
    (fun _ => none) none (fun f a c _ _ => some ⟨f, a, c⟩) none (fun _ _ _ => none) none (fun _ _ => none) (fun _ _ => none)
    none
    (fun _ _ _ _ => none)
    (fun _ _ _ _ => none) x

def ifcV (x : SV) : Option IfO :=
  SV.rec (motive := fun _ => Option IfO)
    (fun _ => none) (fun _ _ => none) (fun _ _ => none) (fun _ _ => none) none (fun _ _ _ _ => none) none none (fun _ => none)
    (fun _ => none) none (fun _ _ _ _ _ => none) none (fun t v _ => some ⟨t, v⟩) none (fun _ _ => none) (fun _ _ => none)
    none
    (fun _ _ _ _ => none)
    (fun _ _ _ _ => none) x

def consV (x : SV) : Option CoO :=
  SV.rec (motive := fun _ => Option CoO)
    (fun _ => none) (fun _ _ => none) (fun _ _ => none) (fun _ _ => none) none (fun _ _ _ _ => none) none none (fun _ => none)
    (fun _ => none) none (fun _ _ _ _ _ => none) none (fun _ _ _ => none) none (fun _ _ => none) (fun _ _ => none)
    none
    (fun v l _ _ => some ⟨v, l⟩)
    (fun _ _ _ _ => none) x

def bytV (x : SV) : Option ByO :=
  SV.rec (motive := fun _ => Option ByO)
    (fun _ => none) (fun _ _ => none) (fun _ _ => none) (fun _ _ => none) none (fun _ _ _ _ => none) none none (fun _ => none)
    (fun _ => none) none (fun _ _ _ _ _ => none) none (fun _ _ _ => none) none (fun _ _ => none) (fun _ _ => none)
    none
    (fun _ _ _ _ => none)
    (fun n v l _ => some ⟨n, v, l⟩) x

def isNl (x : SV) : Bool :=
  SV.rec (motive := fun _ => Bool)
    (fun _ => false) (fun _ _ => false) (fun _ _ => false) (fun _ _ => false) false (fun _ _ _ _ => false) false false (fun _ => false)
    (fun _ => false) false (fun _ _ _ _ _ => false) false (fun _ _ _ => false) false (fun _ _ => false) (fun _ _ => false)
    true
    (fun _ _ _ _ => false)
    (fun _ _ _ _ => false) x

def isNilp (x : SV) : Bool :=
  SV.rec (motive := fun _ => Bool)
    (fun _ => false) (fun _ _ => false) (fun _ _ => false) (fun _ _ => false) true (fun _ _ _ _ => false) false false (fun _ => false)
    (fun _ => false) false (fun _ _ _ _ _ => false) false (fun _ _ _ => false) false (fun _ _ => false) (fun _ _ => false)
    false
    (fun _ _ _ _ => false)
    (fun _ _ _ _ => false) x

def isNils (x : SV) : Bool :=
  SV.rec (motive := fun _ => Bool)
    (fun _ => false) (fun _ _ => false) (fun _ _ => false) (fun _ _ => false) false (fun _ _ _ _ => false) true false (fun _ => false)
    (fun _ => false) false (fun _ _ _ _ _ => false) false (fun _ _ _ => false) false (fun _ _ => false) (fun _ _ => false)
    false
    (fun _ _ _ _ => false)
    (fun _ _ _ _ => false) x

def isEmp (x : SV) : Bool :=
  SV.rec (motive := fun _ => Bool)
    (fun _ => false) (fun _ _ => false) (fun _ _ => false) (fun _ _ => false) false (fun _ _ _ _ => false) false true (fun _ => false)
    (fun _ => false) false (fun _ _ _ _ _ => false) false (fun _ _ _ => false) false (fun _ _ => false) (fun _ _ => false)
    false
    (fun _ _ _ _ => false)
    (fun _ _ _ _ => false) x

def isNilm (x : SV) : Bool :=
  SV.rec (motive := fun _ => Bool)
    (fun _ => false) (fun _ _ => false) (fun _ _ => false) (fun _ _ => false) false (fun _ _ _ _ => false) false false (fun _ => false)
    (fun _ => false) true (fun _ _ _ _ _ => false) false (fun _ _ _ => false) false (fun _ _ => false) (fun _ _ => false)
    false
    (fun _ _ _ _ => false)
    (fun _ _ _ _ => false) x

def isNilf (x : SV) : Bool :=
  SV.rec (motive := fun _ => Bool)
    (fun _ => false) (fun _ _ => false) (fun _ _ => false) (fun _ _ => false) false (fun _ _ _ _ => false) false false (fun _ => false)
    (fun _ => false) false (fun _ _ _ _ _ => false) true (fun _ _ _ => false) false (fun _ _ => false) (fun _ _ => false)
    false
    (fun _ _ _ _ => false)
    (fun _ _ _ _ => false) x

def isNili (x : SV) : Bool :=
  SV.rec (motive := fun _ => Bool)
    (fun _ => false) (fun _ _ => false) (fun _ _ => false) (fun _ _ => false) false (fun _ _ _ _ => false) false false (fun _ => false)
    (fun _ => false) false (fun _ _ _ _ _ => false) false (fun _ _ _ => false) true (fun _ _ => false) (fun _ _ => false)
    false
    (fun _ _ _ _ => false)
    (fun _ _ _ _ => false) x

/-! Tries. -/
def left {α : Type} (t : T α) : T α := T.rec .nil (fun l _ _ _ _ => l) t
def right {α : Type} (t : T α) : T α := T.rec .nil (fun _ _ r _ _ => r) t
def val {α : Type} (t : T α) : Option α := T.rec none (fun _ v _ _ _ => v) t
theorem left_eq {α : Type} (t : T α) : left t = t.left := by cases t <;> rfl
theorem right_eq {α : Type} (t : T α) : right t = t.right := by cases t <;> rfl
theorem val_eq {α : Type} (t : T α) : val t = t.val := by cases t <;> rfl
def get {α : Type} (p : Pos) : T α → Option α := Pos.rec (motive := fun _ => T α → Option α) val (fun _ ih t => ih (left t)) (fun _ ih t => ih (right t)) p
def put {α : Type} (a : Option α) (p : Pos) : T α → T α :=
  Pos.rec (motive := fun _ => T α → T α) (T.rec (.node .nil a .nil) (fun l _ r _ _ => .node l a r))
    (fun _ ih => T.rec (.node (ih .nil) none .nil) (fun l v r _ _ => .node (ih l) v r))
    (fun _ ih => T.rec (.node .nil none (ih .nil)) (fun l v r _ _ => .node l v (ih r))) p
theorem get_eq {α : Type} (p : Pos) (t : T α) : get p t = T.get p t := by
  induction p generalizing t with
  | h => exact val_eq t
  | o p ih => exact (ih (left t)).trans (by rw [left_eq]; rfl)
  | i p ih => exact (ih (right t)).trans (by rw [right_eq]; rfl)
theorem put_eq {α : Type} (a : Option α) (p : Pos) (t : T α) : put a p t = T.put a p t := by
  induction p generalizing t with
  | h => cases t <;> rfl
  | o p ih => cases t with
    | nil => exact congrArg (fun x => T.node x none .nil) (ih .nil)
    | node l v r => exact congrArg (fun x => T.node x v r) (ih l)
  | i p ih => cases t with
    | nil => exact congrArg (fun x => T.node .nil none x) (ih .nil)
    | node l v r => exact congrArg (fun x => T.node l v x) (ih r)
def succ (p : Pos) : Pos := Pos.rec (.o .h) (fun p _ => .i p) (fun _ ih => .o ih) p
theorem succ_eq (p : Pos) : succ p = p.succ := by
  induction p with
  | h => rfl
  | o p _ => rfl
  | i p ih => exact congrArg Pos.o ih

/-! Lists in values. -/
def bcat (n v : Nat) (l : SV) : SV := Bool.rec (Option.rec (.byt n v l) (fun y => .byt (Nat.add n y.n) (joinB v n y.v) y.l) (bytV l)) l (Nat.beq n 0)
theorem bcat_eq (n v : Nat) (l : SV) : bcat n v l = Sh.bcat n v l := by
  show bb (Nat.beq n 0) (oo (bytV l) (SV.byt n v l) (fun y => SV.byt (Nat.add n y.n) (joinB v n y.v) y.l)) l = _
  unfold Sh.bcat
  cases Nat.beq n 0 with
  | true => rfl
  | false => cases l <;> rfl

def len (x : SV) : Nat :=
  SV.rec (motive := fun _ => Nat)
    (fun _ => 0) (fun _ _ => 0) (fun _ _ => 0) (fun _ _ => 0) 0 (fun _ _ _ _ => 0) 0 0 (fun _ => 0)
    (fun _ => 0) 0 (fun _ _ _ _ _ => 0) 0 (fun _ _ _ => 0) 0 (fun _ _ => 0) (fun _ _ => 0)
    0
    (fun _ _ _ ih => Nat.succ ih)
    (fun n _ _ ih => Nat.add n ih) x

theorem len_eq (x : SV) : len x = x.len := by
  induction x with
  | cons v l _ ih => exact congrArg Nat.succ ih
  | byt n v l ih => exact congrArg (Nat.add n) ih
  | _ => rfl

def nth (x : SV) : Nat → Option SV :=
  SV.rec (motive := fun _ => Nat → Option SV)
    (fun _ _ => none) (fun _ _ _ => none) (fun _ _ _ => none) (fun _ _ _ => none) (fun _ => none) (fun _ _ _ _ _ => none) (fun _ => none) (fun _ => none) (fun _ _ => none)
    (fun _ _ => none) (fun _ => none) (fun _ _ _ _ _ _ => none) (fun _ => none) (fun _ _ _ _ => none) (fun _ => none) (fun _ _ _ => none) (fun _ _ _ => none)
    (fun _ => none)
    (fun v _ _ ih i => Bool.rec (ih (Nat.sub i 1)) (some v) (Nat.beq i 0))
    (fun n v _ ih i => Bool.rec (ih (Nat.sub i n)) (some (.int .u8 (Int.ofNat (byteOf v i)))) (Nat.ble (Nat.succ i) n)) x

theorem nth_eq (x : SV) (i : Nat) : nth x i = x.nth i := by
  induction x generalizing i with
  | cons v l _ ih =>
    show bb (Nat.beq i 0) (nth l (Nat.sub i 1)) (some v) = (bif Nat.beq i 0 then some v else l.nth (Nat.sub i 1))
    cases Nat.beq i 0 with
    | true => rfl
    | false => exact ih _
  | byt n v l ih =>
    show bb (Nat.blt i n) (nth l (Nat.sub i n)) (some (SV.int .u8 (Int.ofNat (byteOf v i)))) = (bif Nat.blt i n then some (SV.int .u8 (Int.ofNat (byteOf v i))) else l.nth (Nat.sub i n))
    cases Nat.blt i n with
    | true => rfl
    | false => exact ih _
  | _ => rfl

def take (x : SV) : Nat → Option SV :=
  SV.rec (motive := fun _ => Nat → Option SV)
    (fun _ _ => none) (fun _ _ _ => none) (fun _ _ _ => none) (fun _ _ _ => none) (fun _ => none) (fun _ _ _ _ _ => none) (fun _ => none) (fun _ => none) (fun _ _ => none)
    (fun _ _ => none) (fun _ => none) (fun _ _ _ _ _ _ => none) (fun _ => none) (fun _ _ _ _ => none) (fun _ => none) (fun _ _ _ => none) (fun _ _ _ => none)
    (fun n => Bool.rec none (some .nl) (Nat.beq n 0))
    (fun v _ _ ih n => Bool.rec (Option.rec none (fun r => some (.cons v r)) (ih (Nat.sub n 1))) (some .nl) (Nat.beq n 0))
    (fun m v _ ih n => Bool.rec (Bool.rec (Option.rec none (fun r => some (.byt m v r)) (ih (Nat.sub n m))) (some (.byt n (lowB v n) .nl)) (Nat.ble n m)) (some .nl) (Nat.beq n 0)) x

theorem take_eq (x : SV) (n : Nat) : take x n = x.take n := by
  induction x generalizing n with
  | nl =>
    show bb (Nat.beq n 0) none (some SV.nl) = (bif Nat.beq n 0 then some SV.nl else none)
    cases Nat.beq n 0 <;> rfl
  | cons v l _ ih =>
    show bb (Nat.beq n 0) (oo (take l (Nat.sub n 1)) none (fun r => some (SV.cons v r))) (some SV.nl) = (bif Nat.beq n 0 then some SV.nl else match l.take (Nat.sub n 1) with | some r => some (SV.cons v r) | none => none)
    rw [ih]
    cases Nat.beq n 0 with
    | true => rfl
    | false => cases l.take (Nat.sub n 1) <;> rfl
  | byt m v l ih =>
    show bb (Nat.beq n 0) (bb (Nat.ble n m) (oo (take l (Nat.sub n m)) none (fun r => some (SV.byt m v r))) (some (SV.byt n (lowB v n) SV.nl))) (some SV.nl) =
      (bif Nat.beq n 0 then some SV.nl else bif Nat.ble n m then some (SV.byt n (lowB v n) SV.nl) else match l.take (Nat.sub n m) with | some r => some (SV.byt m v r) | none => none)
    rw [ih]
    cases Nat.beq n 0 with
    | true => rfl
    | false => cases Nat.ble n m with
      | true => rfl
      | false => cases l.take (Nat.sub n m) <;> rfl
  | _ => rfl

def drop (x : SV) : Nat → Option SV :=
  SV.rec (motive := fun _ => Nat → Option SV)
    (fun _ _ => none) (fun _ _ _ => none) (fun _ _ _ => none) (fun _ _ _ => none) (fun _ => none) (fun _ _ _ _ _ => none) (fun _ => none) (fun _ => none) (fun _ _ => none)
    (fun _ _ => none) (fun _ => none) (fun _ _ _ _ _ _ => none) (fun _ => none) (fun _ _ _ _ => none) (fun _ => none) (fun _ _ _ => none) (fun _ _ _ => none)
    (fun n => Bool.rec none (some .nl) (Nat.beq n 0))
    (fun v l _ ih n => Bool.rec (ih (Nat.sub n 1)) (some (.cons v l)) (Nat.beq n 0))
    (fun m v l ih n => Bool.rec (ih (Nat.sub n m)) (some (Bool.rec (.byt (Nat.sub m n) (highB v n) l) (.byt m v l) (Nat.beq n 0))) (Nat.ble (Nat.succ n) m)) x

theorem drop_eq (x : SV) (n : Nat) : drop x n = x.drop n := by
  induction x generalizing n with
  | nl =>
    show bb (Nat.beq n 0) none (some SV.nl) = (bif Nat.beq n 0 then some SV.nl else none)
    cases Nat.beq n 0 <;> rfl
  | cons v l _ ih =>
    show bb (Nat.beq n 0) (drop l (Nat.sub n 1)) (some (SV.cons v l)) = (bif Nat.beq n 0 then some (SV.cons v l) else l.drop (Nat.sub n 1))
    rw [ih]
    cases Nat.beq n 0 <;> rfl
  | byt m v l ih =>
    show bb (Nat.blt n m) (drop l (Nat.sub n m)) (some (bb (Nat.beq n 0) (SV.byt (Nat.sub m n) (highB v n) l) (SV.byt m v l))) =
      (bif Nat.blt n m then some (bif Nat.beq n 0 then SV.byt m v l else SV.byt (Nat.sub m n) (highB v n) l) else l.drop (Nat.sub n m))
    rw [ih]
    cases Nat.blt n m with
    | true => cases Nat.beq n 0 <;> rfl
    | false => rfl
  | _ => rfl

def app (x : SV) : SV → SV :=
  SV.rec (motive := fun _ => SV → SV)
    (fun _ r => r) (fun _ _ r => r) (fun _ _ r => r) (fun _ _ r => r) (fun r => r) (fun _ _ _ _ r => r) (fun r => r) (fun r => r) (fun _ r => r) (fun _ r => r) (fun r => r) (fun _ _ _ _ _ r => r) (fun r => r) (fun _ _ _ r => r) (fun r => r) (fun _ _ r => r) (fun _ _ r => r) (fun r => r) (fun v _ _ ih r => .cons v (ih r)) (fun n v _ ih r => bcat n v (ih r)) x

theorem app_eq (x r : SV) : app x r = x.app r := by
  induction x generalizing r with
  | cons v l _ ih => exact congrArg (SV.cons v) (ih r)
  | byt n v l ih => show bcat n v (app l r) = _; rw [ih, bcat_eq]; rfl
  | _ => rfl

def byteSV (v : SV) : Option Nat := Option.rec none (fun i => IntKind.rec none none none none (Int.rec (fun c => Bool.rec none (some c) (Nat.ble (Nat.succ c) 256)) (fun _ => none) i.n) none none none i.k) (intV v)
theorem byteSV_eq (v : SV) : byteSV v = Sh.byteSV v := by
  cases v <;> try rfl
  rename_i k n
  cases k <;> try rfl
  cases n with
  | ofNat c =>
    show bb (Nat.blt c 256) none (some c) = (bif Nat.blt c 256 then some c else none)
    cases Nat.blt c 256 <;> rfl
  | negSucc c => rfl
end
end Go.Sh.K

/-
  The fast form: memory, slices, comparison.
-/
namespace Go.Sh.K
set_option linter.unusedVariables false
noncomputable section

def set (x : SV) : Nat → SV → Option SV :=
  SV.rec (motive := fun _ => Nat → SV → Option SV)
    (fun _ _ _ => none) (fun _ _ _ _ => none) (fun _ _ _ _ => none) (fun _ _ _ _ => none) (fun _ _ => none) (fun _ _ _ _ _ _ => none) (fun _ _ => none) (fun _ _ => none) (fun _ _ _ => none)
    (fun _ _ _ => none) (fun _ _ => none) (fun _ _ _ _ _ _ _ => none) (fun _ _ => none) (fun _ _ _ _ _ => none) (fun _ _ => none) (fun _ _ _ _ => none) (fun _ _ _ _ => none)
    (fun _ _ => none)
    (fun v l _ ih i u => Bool.rec (Option.rec none (fun r => some (.cons v r)) (ih (Nat.sub i 1) u)) (some (.cons u l)) (Nat.beq i 0))
    (fun n v l ih i u => Bool.rec (Option.rec none (fun r => some (bcat n v r)) (ih (Nat.sub i n) u))
      (some (Option.rec (bcat i (lowB v i) (.cons u (bcat (Nat.sub n (Nat.add i 1)) (highB v (Nat.add i 1)) l))) (fun c => .byt n (joinB (joinB (lowB v i) i c) (Nat.add i 1) (highB v (Nat.add i 1))) l) (byteSV u))) (Nat.ble (Nat.succ i) n)) x

theorem set_eq (x : SV) (i : Nat) (u : SV) : set x i u = x.set i u := by
  induction x generalizing i with
  | cons v l _ ih =>
    show bb (Nat.beq i 0) (oo (set l (Nat.sub i 1) u) none (fun r => some (SV.cons v r))) (some (SV.cons u l)) = (bif Nat.beq i 0 then some (SV.cons u l) else match l.set (Nat.sub i 1) u with | some r => some (SV.cons v r) | none => none)
    rw [ih]
    cases Nat.beq i 0 with
    | true => rfl
    | false => cases l.set (Nat.sub i 1) u <;> rfl
  | byt n v l ih =>
    show bb (Nat.blt i n) (oo (set l (Nat.sub i n) u) none (fun r => some (bcat n v r)))
      (some (oo (byteSV u) (bcat i (lowB v i) (SV.cons u (bcat (Nat.sub n (Nat.add i 1)) (highB v (Nat.add i 1)) l))) (fun c => SV.byt n (joinB (joinB (lowB v i) i c) (Nat.add i 1) (highB v (Nat.add i 1))) l))) =
      (bif Nat.blt i n then some (match Sh.byteSV u with | some c => SV.byt n (joinB (joinB (lowB v i) i c) (Nat.add i 1) (highB v (Nat.add i 1))) l | none => Sh.bcat i (lowB v i) (SV.cons u (Sh.bcat (Nat.sub n (Nat.add i 1)) (highB v (Nat.add i 1)) l)))
       else match l.set (Nat.sub i n) u with | some r => some (Sh.bcat n v r) | none => none)
    rw [ih, byteSV_eq]
    simp only [bcat_eq]
    cases Nat.blt i n with
    | true => cases Sh.byteSV u <;> rfl
    | false => cases l.set (Nat.sub i n) u <;> rfl
  | _ => rfl

def over (l : SV) (o : Nat) (u : SV) (n : Nat) : Option SV := Option.rec none (fun a => Option.rec none (fun b => some (app a (app u b))) (drop l (Nat.add o n))) (take l o)
theorem over_eq (l : SV) (o : Nat) (u : SV) (n : Nat) : over l o u n = l.over o u n := by
  show oo (take l o) none (fun a => oo (drop l (Nat.add o n)) none (fun b => some (app a (app u b)))) = _
  unfold SV.over
  rw [take_eq, drop_eq]
  simp only [app_eq]
  cases l.take o <;> cases l.drop (Nat.add o n) <;> rfl

def toBytes (x : SV) : Option (Nat × Nat) :=
  SV.rec (motive := fun _ => Option (Nat × Nat))
    (fun _ => none) (fun _ _ => none) (fun _ _ => none) (fun _ _ => none) none (fun _ _ _ _ => none) none none (fun _ => none)
    (fun _ => none) none (fun _ _ _ _ _ => none) none (fun _ _ _ => none) none (fun _ _ => none) (fun _ _ => none)
    (some (0, 0))
    (fun v _ _ ih => Option.rec none (fun c => Option.rec none (fun r => some (Nat.succ r.1, joinB c 1 r.2)) ih) (byteSV v))
    (fun n v l ih => Bool.rec (Option.rec none (fun r => some (Nat.add n r.1, joinB v n r.2)) ih) (some (n, v)) (isNl l)) x

theorem oo_pair (x : Option (Nat × Nat)) (f : Nat → Nat → Nat × Nat) : oo x none (fun r => some (f r.1 r.2)) = (match x with | some (m, w) => some (f m w) | none => none) := by cases x <;> rfl
theorem toBytes_eq (x : SV) : toBytes x = x.toBytes := by
  induction x with
  | cons v l _ ih =>
    show oo (byteSV v) none (fun c => oo (toBytes l) none (fun r => some (Nat.succ r.1, joinB c 1 r.2))) = _
    rw [ih, byteSV_eq]
    simp only [SV.toBytes]
    cases Sh.byteSV v with
    | none => rfl
    | some c => cases l.toBytes with
      | none => rfl
      | some r => rfl
  | byt n v l ih =>
    show bb (isNl l) (oo (toBytes l) none (fun r => some (Nat.add n r.1, joinB v n r.2))) (some (n, v)) = _
    rw [ih]
    cases l <;> first
      | rfl
      | exact oo_pair _ (fun m w => (Nat.add n m, joinB v n w))
  | _ => rfl

/-! Memory. -/
def rowV (o : SObj) : Option RowO := SObj.rec (motive := fun _ => Option RowO) (fun l sz g sh fam => some ⟨l, sz, g, sh, fam⟩) (fun _ _ => none) (fun _ => none) none (fun _ _ _ => none) o
def rowAt (h : H) (b : Pos) : Option RowO := Option.rec none rowV (get b h.t)
theorem rowAt_eq {α : Type} (h : H) (b : Pos) (d : α) (f : SV → Nat → Nat → Bool → Pos → α) :
    oo (rowAt h b) d (fun r => f r.l r.sz r.g r.sh r.fam) = (match T.get b h.t with | some (.row l sz g sh fam) => f l sz g sh fam | _ => d) := by
  unfold rowAt
  rw [get_eq]
  cases T.get b h.t with
  | none => rfl
  | some o => cases o <;> rfl

def newRow (h : H) (l : SV) (n g : Nat) : H := H.rec (fun nx t fams => ⟨succ nx, put (some (.row l n g false nx)) nx t, fams⟩) h
theorem newRow_eq (h : H) (l : SV) (n g : Nat) : newRow h l n g = h.newRow l n g := by
  cases h with
  | mk nx t fams =>
    show H.mk (succ nx) (put (some (.row l n g false nx)) nx t) fams = H.mk nx.succ (T.put (some (.row l n g false nx)) nx t) fams
    rw [succ_eq, put_eq]
def hput (h : H) (b : Pos) (o : SObj) : H := H.rec (fun nx t fams => ⟨nx, put (some o) b t, fams⟩) h
theorem hput_eq (h : H) (b : Pos) (o : SObj) : hput h b o = h.put b o := by
  cases h with | mk nx t fams => exact congrArg (fun a => H.mk nx a fams) (put_eq _ _ _)
def write (h : H) (b : Pos) (l : SV) (sz g : Nat) (sh : Bool) (fam : Pos) : H := Bool.rec (hput h b (.row l sz g false fam)) (h.write b l sz g true fam) sh
theorem write_eq (h : H) (b : Pos) (l : SV) (sz g : Nat) (sh : Bool) (fam : Pos) : write h b l sz g sh fam = h.write b l sz g sh fam := by
  cases sh with
  | true => rfl
  | false => exact hput_eq _ _ _
def cell (h : H) (p : PO) : Option SV := Option.rec none (fun r => nth r.l p.o) (rowAt h p.b)
theorem cell_eq (h : H) (p : PO) : cell h p = h.cell p.b p.o := by
  show oo (rowAt h p.b) none (fun r => nth r.l p.o) = _
  rw [rowAt_eq h p.b none (fun l _ _ _ _ => nth l p.o)]
  unfold H.cell
  cases T.get p.b h.t with
  | none => rfl
  | some o => cases o <;> first | exact nth_eq _ _ | rfl
def range (h : H) (b : Pos) (o n : Nat) : Option SV := Option.rec none (fun r => Bool.rec (Option.rec none (fun r => take r n) (drop r.l o)) (some r.l) (and (Nat.beq o 0) (Nat.beq n r.sz))) (rowAt h b)
theorem range_eq (h : H) (b : Pos) (o n : Nat) : range h b o n = h.range b o n := by
  show oo (rowAt h b) none (fun r => bb (and (Nat.beq o 0) (Nat.beq n r.sz)) (oo (drop r.l o) none (fun r => take r n)) (some r.l)) = _
  rw [rowAt_eq h b none (fun l sz _ _ _ => bb (and (Nat.beq o 0) (Nat.beq n sz)) (oo (drop l o) none (fun r => take r n)) (some l))]
  unfold H.range
  simp only [drop_eq, take_eq]
  cases T.get b h.t with
  | none => rfl
  | some x => cases x with
    | row l sz g sh fam =>
      show bb (and (Nat.beq o 0) (Nat.beq n sz)) (oo (l.drop o) none (fun r => r.take n)) (some l) = (bif (Nat.beq o 0 && Nat.beq n sz) then some l else match l.drop o with | some r => r.take n | none => none)
      cases (Nat.beq o 0 && Nat.beq n sz) with
      | true => rfl
      | false => show oo (l.drop o) none (fun r => r.take n) = (match l.drop o with | some r => r.take n | none => none); cases l.drop o <;> rfl
    | _ => rfl
def setCell (h : H) (b : Pos) (o : Nat) (v : SV) : Option H := Option.rec none (fun r => Option.rec none (fun l => some (write h b l r.sz r.g r.sh r.fam)) (set r.l o v)) (rowAt h b)
theorem setCell_eq (h : H) (b : Pos) (o : Nat) (v : SV) : setCell h b o v = h.setCell b o v := by
  show oo (rowAt h b) none (fun r => oo (set r.l o v) none (fun l => some (write h b l r.sz r.g r.sh r.fam))) = _
  rw [rowAt_eq h b none (fun l sz g sh fam => oo (set l o v) none (fun l => some (write h b l sz g sh fam)))]
  unfold H.setCell
  simp only [set_eq, write_eq]
  cases T.get b h.t with
  | none => rfl
  | some x => cases x with
    | row l sz g sh fam => show oo (l.set o v) none (fun l => some (h.write b l sz g sh fam)) = (match l.set o v with | some l => some (h.write b l sz g sh fam) | none => none); cases l.set o v <;> rfl
    | _ => rfl
def setRange (h : H) (b : Pos) (o : Nat) (v : SV) (n : Nat) : Option H := Option.rec none (fun r => Option.rec none (fun l => some (write h b l r.sz r.g r.sh r.fam)) (over r.l o v n)) (rowAt h b)
theorem setRange_eq (h : H) (b : Pos) (o : Nat) (v : SV) (n : Nat) : setRange h b o v n = h.setRange b o v n := by
  show oo (rowAt h b) none (fun r => oo (over r.l o v n) none (fun l => some (write h b l r.sz r.g r.sh r.fam))) = _
  rw [rowAt_eq h b none (fun l sz g sh fam => oo (over l o v n) none (fun l => some (write h b l sz g sh fam)))]
  unfold H.setRange
  simp only [over_eq, write_eq]
  cases T.get b h.t with
  | none => rfl
  | some x => cases x with
    | row l sz g sh fam => show oo (l.over o v n) none (fun l => some (h.write b l sz g sh fam)) = (match l.over o v n with | some l => some (h.write b l sz g sh fam) | none => none); cases l.over o v n <;> rfl
    | _ => rfl

/-- the elements: how many, and their cells. -/
def elems (h : H) (es : Nat) (x : SV) : Option (Nat × SV) :=
  Option.rec (Bool.rec (Sh.elems h es x) (some (0, .nl)) (isNils x)) (fun s => Option.rec none (fun l => some (s.n, l)) (range h s.b s.o (Nat.mul s.n es))) (slcV x)
theorem elems_eq (h : H) (es : Nat) (x : SV) : elems h es x = Sh.elems h es x := by
  show oo (slcV x) (bb (isNils x) (Sh.elems h es x) (some (0, SV.nl))) (fun s => oo (range h s.b s.o (Nat.mul s.n es)) none (fun l => some (s.n, l))) = _
  cases x with
  | slc b o n c =>
    show oo (range h b o (Nat.mul n es)) none (fun l => some (n, l)) = (match h.range b o (Nat.mul n es) with | some l => some (n, l) | none => none)
    rw [range_eq]
    cases h.range b o (Nat.mul n es) <;> rfl
  | _ => rfl

def killAll (keep : Pos) (ms : List Pos) : T SObj → T SObj :=
  List.rec (motive := fun _ => T SObj → T SObj) (fun t => t) (fun b _ ih t => ih (Bool.rec (put none b t) t (b.beq keep))) ms
theorem killAll_eq (keep : Pos) (ms : List Pos) (t : T SObj) : killAll keep ms t = Sh.killAll keep ms t := by
  induction ms generalizing t with
  | nil => rfl
  | cons b r ih =>
    show killAll keep r (bb (b.beq keep) (put none b t) t) = Sh.killAll keep r (bif b.beq keep then t else t.put none b)
    rw [ih, put_eq]
    cases b.beq keep <;> rfl
def getL (o : Option (List Pos)) : List Pos := Option.rec [] (fun l => l) o
theorem getL_eq (o : Option (List Pos)) : getL o = o.getD [] := by cases o <;> rfl

def appNil (es bytes n : Nat) (new : SV) (h : H) : Option OR :=
  Bool.rec (Bool.rec none (some (.val (.slc h.next 0 n n) (newRow h new (Nat.mul n es) es))) (and (and (Nat.ble (Nat.mul n bytes) 1099511627776) (Nat.ble (Nat.succ n) 1099511627776)) (Nat.ble 1 es))) (some (.val .nils h)) (Nat.beq n 0)
def appShare (b : Pos) (old new : SV) (l : SV) (sz g : Nat) (fam : Pos) (es m : Nat) (h : H) : Option OR :=
  some (.val (.slc h.next 0 m m) ⟨succ h.next, put (some (.row (app old new) (Nat.mul m es) es true fam)) h.next (put (some (.row l sz g true fam)) b (killAll b (getL (get fam h.fams)) h.t)), put (some [b, h.next]) fam h.fams⟩)
def appSlc (es bytes : Nat) (s : SlO) (n : Nat) (new : SV) (h : H) : Option OR :=
  Bool.rec
    (Bool.rec
      (Bool.rec none
        (Option.rec none (fun r => Option.rec none (fun old =>
          Bool.rec
            (Bool.rec none (appShare s.b old new r.l r.sz r.g r.fam es (Nat.add s.n n) h) (and (Nat.beq r.g es) (Nat.beq s.n s.c)))
            (some (.val (.slc h.next 0 (Nat.add s.n n) (Nat.add s.n n)) (newRow h (app old new) (Nat.mul (Nat.add s.n n) es) es)))
            (or (Nat.beq r.g 0) (and (Nat.beq r.g es) (not (Nat.beq (Nat.add s.o (Nat.mul s.c es)) r.sz)))))
          (range h s.b s.o (Nat.mul s.n es))) (rowAt h s.b))
        (and (and (Nat.ble (Nat.mul (Nat.add s.n n) bytes) 1099511627776) (Nat.ble (Nat.succ (Nat.add s.n n)) 1099511627776)) (Nat.ble 1 es)))
      (Option.rec none (fun h => some (.val (.slc s.b s.o (Nat.add s.n n) s.c) h)) (setRange h s.b (Nat.add s.o (Nat.mul s.n es)) new (Nat.mul n es)))
      (Nat.ble (Nat.add s.n n) s.c))
    (some (.val (.slc s.b s.o s.n s.c) h)) (Nat.beq n 0)
def appGo (es bytes : Nat) (s : SV) (n : Nat) (new : SV) (h : H) : Option OR :=
  Option.rec (Bool.rec (Sh.appGo es bytes s n new h) (appNil es bytes n new h) (isNils s)) (fun s => appSlc es bytes s n new h) (slcV s)
theorem appGo_eq (es bytes : Nat) (s : SV) (n : Nat) (new : SV) (h : H) : appGo es bytes s n new h = Sh.appGo es bytes s n new h := by
  show oo (slcV s) (bb (isNils s) (Sh.appGo es bytes s n new h) (appNil es bytes n new h)) (fun s => appSlc es bytes s n new h) = _
  cases s with
  | nils =>
    show bb (Nat.beq n 0) (bb (Nat.ble (Nat.mul n bytes) 1099511627776 && Nat.blt n 1099511627776 && Nat.blt 0 es) none (some (OR.val (.slc h.next 0 n n) (newRow h new (Nat.mul n es) es)))) (some (OR.val .nils h)) =
      (bif Nat.beq n 0 then some (OR.val .nils h) else bif Nat.ble (Nat.mul n bytes) 1099511627776 && Nat.blt n 1099511627776 && Nat.blt 0 es then some (OR.val (.slc h.next 0 n n) (h.newRow new (Nat.mul n es) es)) else none)
    rw [newRow_eq]
    cases Nat.beq n 0 with
    | true => rfl
    | false => cases (Nat.ble (Nat.mul n bytes) 1099511627776 && Nat.blt n 1099511627776 && Nat.blt 0 es) <;> rfl
  | slc b o len cap =>
    show bb (Nat.beq n 0) (bb (Nat.ble (Nat.add len n) cap)
        (bb (Nat.ble (Nat.mul (Nat.add len n) bytes) 1099511627776 && Nat.blt (Nat.add len n) 1099511627776 && Nat.blt 0 es) none
          (oo (rowAt h b) none (fun r => oo (range h b o (Nat.mul len es)) none (fun old =>
            bb (Nat.beq r.g 0 || (Nat.beq r.g es && !(Nat.beq (Nat.add o (Nat.mul cap es)) r.sz)))
              (bb (Nat.beq r.g es && Nat.beq len cap) none (appShare b old new r.l r.sz r.g r.fam es (Nat.add len n) h))
              (some (OR.val (.slc h.next 0 (Nat.add len n) (Nat.add len n)) (newRow h (app old new) (Nat.mul (Nat.add len n) es) es)))))))
        (oo (setRange h b (Nat.add o (Nat.mul len es)) new (Nat.mul n es)) none (fun h => some (OR.val (.slc b o (Nat.add len n) cap) h))))
      (some (OR.val (.slc b o len cap) h)) = _
    rw [rowAt_eq h b none (fun l sz g sh fam => oo (range h b o (Nat.mul len es)) none (fun old =>
            bb (Nat.beq g 0 || (Nat.beq g es && !(Nat.beq (Nat.add o (Nat.mul cap es)) sz)))
              (bb (Nat.beq g es && Nat.beq len cap) none (appShare b old new l sz g fam es (Nat.add len n) h))
              (some (OR.val (.slc h.next 0 (Nat.add len n) (Nat.add len n)) (newRow h (app old new) (Nat.mul (Nat.add len n) es) es)))))]
    unfold appShare
    simp only [range_eq, setRange_eq, newRow_eq, app_eq, succ_eq, put_eq, get_eq, getL_eq, killAll_eq]
    unfold Sh.appGo
    cases Nat.beq n 0 with
    | true => rfl
    | false =>
      simp only [cond_false]
      cases Nat.ble (Nat.add len n) cap with
      | true => simp only [cond_true]; show oo _ _ _ = _; cases h.setRange b (Nat.add o (Nat.mul len es)) new (Nat.mul n es) <;> rfl
      | false =>
        simp only [cond_false]
        cases (Nat.ble (Nat.mul (Nat.add len n) bytes) 1099511627776 && Nat.blt (Nat.add len n) 1099511627776 && Nat.blt 0 es) with
        | false => rfl
        | true =>
          simp only [cond_true]
          unfold H.get
          cases T.get b h.t with
          | none => rfl
          | some x => cases x with
            | row l sz g sh fam =>
              show oo _ _ _ = (match h.range b o (Nat.mul len es) with | none => none | some old => _)
              cases h.range b o (Nat.mul len es) with
              | none => rfl
              | some old =>
                show bb _ _ _ = (bif Nat.beq g 0 || (Nat.beq g es && !(Nat.beq (Nat.add o (Nat.mul cap es)) sz)) then _ else _)
                cases (Nat.beq g 0 || (Nat.beq g es && !(Nat.beq (Nat.add o (Nat.mul cap es)) sz))) with
                | true => rfl
                | false =>
                  show bb _ _ _ = (bif Nat.beq g es && Nat.beq len cap then _ else _)
                  cases (Nat.beq g es && Nat.beq len cap) <;> rfl
            | _ => rfl
  | _ => rfl
end
end Go.Sh.K

/-
  The fast form: operations.
-/
namespace Go.Sh.K
set_option linter.unusedVariables false
noncomputable section

/-! Operands. -/
def nthV (l : List SV) : Nat → SV :=
  List.rec (motive := fun _ => Nat → SV) (fun _ => und) (fun x _ ih n => Bool.rec (ih (Nat.sub n 1)) x (Nat.beq n 0)) l
theorem nthV_eq (l : List SV) (n : Nat) : nthV l n = (nthL l n).getD und := by
  induction l generalizing n with
  | nil => rfl
  | cons x l ih =>
    show bb (Nat.beq n 0) (nthV l (Nat.sub n 1)) x = (bif Nat.beq n 0 then some x else nthL l (Nat.sub n 1)).getD und
    cases Nat.beq n 0 with
    | true => rfl
    | false => exact ih _
def orU (o : Option SV) : SV := Option.rec und (fun v => v) o
theorem orU_eq (o : Option SV) : orU o = o.getD und := by cases o <;> rfl
def evOd (loc : List SV) (tm : T SV) (o : Od) : SV := Od.rec (nthV loc) (fun p => orU (get p tm)) (fun v => v) o
theorem evOd_eq (loc : List SV) (tm : T SV) : evOd loc tm = Sh.evOd loc tm := by
  funext o
  cases o with
  | loc i => exact nthV_eq loc i
  | tmp p => show orU (get p tm) = _; rw [orU_eq, get_eq]; rfl
  | cst v => rfl
def setT (tm : T SV) (d : Option Pos) (v : SV) : T SV := Option.rec tm (fun p => put (some v) p tm) d
theorem setT_eq (tm : T SV) (d : Option Pos) (v : SV) : setT tm d v = Sh.setT tm d v := by
  cases d with
  | none => rfl
  | some p => exact put_eq _ _ _

/-! Comparison. -/
def partS (l : SV) (off n : Nat) (ag : Bool) : Option SV := Bool.rec (nth l off) (Option.rec none (fun r => Option.rec none (fun r => some (.agg r)) (take r n)) (drop l off)) ag
theorem partS_eq (l : SV) (off n : Nat) (ag : Bool) : partS l off n ag = Sh.partS l off n ag := by
  cases ag with
  | false => exact nth_eq _ _
  | true =>
    show oo (drop l off) none (fun r => oo (take r n) none (fun r => some (SV.agg r))) = _
    rw [drop_eq]
    unfold Sh.partS
    cases l.drop off with
    | none => rfl
    | some r =>
      show oo (take r n) none (fun r => some (SV.agg r)) = (match r.take n with | some r => some (.agg r) | none => none)
      rw [take_eq]
      cases r.take n <;> rfl

def eqBool (x y : SV) : Option Bool := Option.rec none (fun a => Option.rec none (fun b => some (Bool.rec (Bool.rec true false b) b a)) (boolV y)) (boolV x)
def eqInt (x y : SV) : Option Bool := Option.rec none (fun a => Option.rec none (fun b => Bool.rec none (some (beqI a.n b.n)) (sameK a.k b.k)) (intV y)) (intV x)
def eqStr (x y : SV) : Option Bool := Option.rec none (fun a => Option.rec none (fun b => some (and (Nat.beq a.n b.n) (Nat.beq a.v b.v))) (strV y)) (strV x)
def eqPtr (x y : SV) : Option Bool :=
  Bool.rec (Bool.rec none (Option.rec none (fun _ => some false) (ptrV y)) (isNilp x)) (Bool.rec (Option.rec none (fun _ => some false) (ptrV x)) (some true) (isNilp x)) (isNilp y)
theorem eqBool_eq (x y : SV) : eqBool x y = Sh.eqV .bool x y := by
  show oo (boolV x) none (fun a => oo (boolV y) none (fun b => some (bb a (bb b true false) b))) = _
  cases x <;> try rfl
  cases y <;> try rfl
  rename_i a b; cases a <;> cases b <;> rfl
theorem eqInt_eq (x y : SV) : eqInt x y = Sh.eqV .int x y := by
  show oo (intV x) none (fun a => oo (intV y) none (fun b => bb (sameK a.k b.k) none (some (beqI a.n b.n)))) = _
  cases x <;> try rfl
  cases y <;> try rfl
  rename_i k a j b
  show bb (sameK k j) none (some (beqI a b)) = (bif sameK k j then some (beqI a b) else none)
  cases sameK k j <;> rfl
theorem eqStr_eq (x y : SV) : eqStr x y = Sh.eqV .str x y := by
  show oo (strV x) none (fun a => oo (strV y) none (fun b => some (and (Nat.beq a.n b.n) (Nat.beq a.v b.v)))) = _
  cases x <;> try rfl
  cases y <;> rfl
theorem eqPtr_eq (x y : SV) : eqPtr x y = Sh.eqV .ptr x y := by
  show bb (isNilp y) (bb (isNilp x) none (oo (ptrV y) none (fun _ => some false))) (bb (isNilp x) (oo (ptrV x) none (fun _ => some false)) (some true)) = _
  cases x <;> cases y <;> rfl

def eqV (e : EqS) : SV → SV → Option Bool :=
  EqS.rec (motive := fun _ => SV → SV → Option Bool) eqBool eqInt eqStr eqPtr (Sh.eqV .slc) (Sh.eqV .map) (Sh.eqV .fnc) (Sh.eqV .ifc)
    (fun _ ih x y => Option.rec none (fun xs => Option.rec none (fun ys => ih xs ys) (aggV y)) (aggV x))
    (fun n sz ag _ ih x y => Option.rec none (fun xs => Option.rec none (fun ys => eqArr ih sz ag n 0 xs ys) (aggV y)) (aggV x))
    (fun _ _ => some true)
    (fun off sz ag _ _ ih1 ih2 xs ys => Option.rec none (fun a => Option.rec none (fun b => Option.rec none (fun t => Bool.rec (some false) (ih2 xs ys) t) (ih1 a b)) (partS ys off sz ag)) (partS xs off sz ag)) e
theorem eqV_eq (e : EqS) : eqV e = Sh.eqV e := by
  induction e with
  | bool => funext x y; exact eqBool_eq x y
  | int => funext x y; exact eqInt_eq x y
  | str => funext x y; exact eqStr_eq x y
  | ptr => funext x y; exact eqPtr_eq x y
  | slc => rfl
  | map => rfl
  | fnc => rfl
  | ifc => rfl
  | st l ih =>
    funext x y
    show oo (aggV x) none (fun xs => oo (aggV y) none (fun ys => eqV l xs ys)) = _
    rw [ih]
    cases x <;> try rfl
    cases y <;> rfl
  | ar n sz ag e ih =>
    funext x y
    show oo (aggV x) none (fun xs => oo (aggV y) none (fun ys => eqArr (eqV e) sz ag n 0 xs ys)) = _
    rw [ih]
    cases x <;> try rfl
    cases y <;> rfl
  | fnl => rfl
  | fld off sz ag e rest ih1 ih2 =>
    funext xs ys
    show oo (partS xs off sz ag) none (fun a => oo (partS ys off sz ag) none (fun b => oo (eqV e a b) none (fun t => bb t (some false) (eqV rest xs ys)))) =
      (match Sh.partS xs off sz ag, Sh.partS ys off sz ag with
        | some a, some b => match Sh.eqV e a b with | some true => Sh.eqV rest xs ys | r => r
        | _, _ => none)
    rw [ih1, ih2, partS_eq, partS_eq]
    cases Sh.partS xs off sz ag <;> try rfl
    rename_i a
    cases Sh.partS ys off sz ag <;> try rfl
    rename_i b
    show oo (Sh.eqV e a b) none (fun t => bb t (some false) (Sh.eqV rest xs ys)) = (match Sh.eqV e a b with | some true => Sh.eqV rest xs ys | r => r)
    cases Sh.eqV e a b with
    | none => rfl
    | some t => cases t <;> rfl

/-! Operations. -/
abbrev Opn := Ctx → (Od → SV) → H → Option OR
def orV (h : H) (v : Option SV) : Option OR := Option.rec none (fun v => some (.val v h)) v
theorem orV_eq (h : H) (v : Option SV) : orV h v = (match v with | some v => some (OR.val v h) | none => none) := by cases v <;> rfl

def oMv (x : Od) : Opn := fun X ev h => some (.val (ev x) h)
def oPick (c a b : Od) : Opn := fun X ev h => Option.rec none (fun t => some (.val (Bool.rec (ev b) (ev a) t) h)) (boolV (ev c))
theorem oPick_eq (c a b : Od) : oPick c a b = evS (.pick c a b) := by
  funext X ev h
  show oo (boolV (ev c)) none (fun t => some (OR.val (bb t (ev b) (ev a)) h)) = (match ev c with | .bool true => some (OR.val (ev a) h) | .bool false => some (OR.val (ev b) h) | _ => none)
  cases ev c <;> try rfl
  rename_i t; cases t <;> rfl
def oNew (z : SV) (n : Nat) : Opn := fun X ev h => some (.val (.ptr h.next 0) (newRow h z n 0))
theorem oNew_eq (z : SV) (n : Nat) : oNew z n = evS (.new z n) := by
  funext X ev h; show some (OR.val _ (newRow h z n 0)) = some (OR.val _ (h.newRow z n 0)); rw [newRow_eq]
def oBox (n : Nat) (x : Od) : Opn := fun X ev h =>
  Option.rec (Bool.rec none (some (.val (.ptr h.next 0) (newRow h (.cons (ev x) .nl) 1 0))) (and (Nat.beq n 1) (flatV (ev x))))
    (fun l => Bool.rec none (some (.val (.ptr h.next 0) (newRow h l n 0))) (Nat.beq (len l) n)) (aggV (ev x))
theorem flatV_eq (x : SV) : flatV x = x.flat1 := by cases x <;> rfl
theorem bb_cond {α : Type} (b : Bool) (x y : α) : bb b x y = (bif b then y else x) := by cases b <;> rfl
theorem oBox_eq (n : Nat) (x : Od) : oBox n x = evS (.box n x) := by
  funext X ev h
  show oo (aggV (ev x)) (bb (and (Nat.beq n 1) (flatV (ev x))) none (some (OR.val (.ptr h.next 0) (newRow h (.cons (ev x) .nl) 1 0))))
    (fun l => bb (Nat.beq (len l) n) none (some (OR.val (.ptr h.next 0) (newRow h l n 0)))) = _
  simp only [newRow_eq, flatV_eq, len_eq, bb_cond, evS]
  cases ev x <;> rfl

def partFill (v : SV) (off n : Nat) (l : SV) : Option SV :=
  Option.rec (Bool.rec none (set l off v) (and (Nat.beq n 1) (flatV v))) (fun c => Bool.rec none (over l off c n) (Nat.beq (len c) n)) (aggV v)
theorem partFill_eq (v : SV) (off n : Nat) (l : SV) : partFill v off n l = Sh.partFill v off n l := by
  show oo (aggV v) (bb (and (Nat.beq n 1) (flatV v)) none (set l off v)) (fun c => bb (Nat.beq (len c) n) none (over l off c n)) = _
  simp only [set_eq, over_eq, flatV_eq, len_eq, bb_cond, Sh.partFill]
  cases v <;> rfl
def fillS (ev : Od → SV) (ps : Parts) : SV → Option SV :=
  List.rec (motive := fun _ => SV → Option SV) (fun l => some l) (fun p _ ih l => Option.rec none (fun l => ih l) (partFill (ev p.2.2) p.1 p.2.1 l)) ps
theorem fillS_eq (ev : Od → SV) (ps : Parts) (l : SV) : fillS ev ps l = Sh.fillS ev ps l := by
  induction ps generalizing l with
  | nil => rfl
  | cons p ps ih =>
    obtain ⟨o, n, x⟩ := p
    show oo (partFill (ev x) o n l) none (fun l => fillS ev ps l) = (match Sh.partFill (ev x) o n l with | some l => Sh.fillS ev ps l | none => none)
    rw [partFill_eq]
    cases Sh.partFill (ev x) o n l with
    | none => rfl
    | some l => exact ih l
def oBuild (z : SV) (n : Nat) (ps : Parts) : Opn := fun X ev h => Option.rec none (fun l => some (.val (.agg l) h)) (fillS ev ps z)
theorem oBuild_eq (z : SV) (n : Nat) (ps : Parts) : oBuild z n ps = evS (.build z n ps) := by
  funext X ev h
  show oo (fillS ev ps z) none (fun l => some (OR.val (.agg l) h)) = (match Sh.fillS ev ps z with | some l => some (OR.val (.agg l) h) | none => none)
  rw [fillS_eq]
  cases Sh.fillS ev ps z <;> rfl
def oBslice (len n : Nat) (z : SV) (ps : Parts) : Opn := fun X ev h => Option.rec none (fun l => some (.val (.slc h.next 0 len len) (newRow h l n 0))) (fillS ev ps z)
theorem oBslice_eq (len n : Nat) (z : SV) (ps : Parts) : oBslice len n z ps = evS (.bslice len n z ps) := by
  funext X ev h
  show oo (fillS ev ps z) none (fun l => some (OR.val (.slc h.next 0 len len) (newRow h l n 0))) = (match Sh.fillS ev ps z with | some l => some (OR.val (.slc h.next 0 len len) (h.newRow l n 0)) | none => none)
  rw [fillS_eq]
  simp only [newRow_eq]
  cases Sh.fillS ev ps z <;> rfl

def loadS (n : Nat) (ag : Bool) (h : H) (a : SV) : Option SV :=
  Option.rec none (fun p => Bool.rec (cell h p) (Option.rec none (fun l => some (.agg l)) (range h p.b p.o n)) ag) (ptrV a)
theorem loadS_eq (n : Nat) (ag : Bool) (h : H) (a : SV) : loadS n ag h a = Sh.loadS n ag h a := by
  show oo (ptrV a) none (fun p => bb ag (cell h p) (oo (range h p.b p.o n) none (fun l => some (SV.agg l)))) = _
  cases a <;> try rfl
  rename_i b o
  cases ag with
  | false => exact cell_eq h ⟨b, o⟩
  | true =>
    show oo (range h b o n) none (fun l => some (SV.agg l)) = (match h.range b o n with | some l => some (.agg l) | none => none)
    rw [range_eq]
    cases h.range b o n <;> rfl
def oLoad (n : Nat) (ag : Bool) (a : Od) : Opn := fun X ev h => orV h (loadS n ag h (ev a))
theorem oLoad_eq (n : Nat) (ag : Bool) (a : Od) : oLoad n ag a = evS (.load n ag a) := by
  funext X ev h
  show orV h (loadS n ag h (ev a)) = (match Sh.loadS n ag h (ev a) with | some v => some (OR.val v h) | none => none)
  rw [loadS_eq, orV_eq]

def orH (x : Option H) : Option OR := Option.rec none (fun h => some (.val und h)) x
def oStore (n : Nat) (a x : Od) : Opn := fun X ev h =>
  Option.rec none (fun p => Option.rec (Bool.rec (evS (.store n a x) X ev h) (Bool.rec none (orH (setCell h p.b p.o (ev x))) (Nat.beq n 1)) (flatV (ev x)))
    (fun l => Bool.rec none (orH (setRange h p.b p.o l n)) (Nat.beq (len l) n)) (aggV (ev x))) (ptrV (ev a))
theorem orH_eq (x : Option H) : orH x = (match x with | some h => some (OR.val und h) | none => none) := by cases x <;> rfl
theorem oStore_eq (n : Nat) (a x : Od) : oStore n a x = evS (.store n a x) := by
  funext X ev h
  show oo (ptrV (ev a)) none (fun p => oo (aggV (ev x)) (bb (flatV (ev x)) (evS (.store n a x) X ev h) (bb (Nat.beq n 1) none (orH (setCell h p.b p.o (ev x)))))
    (fun l => bb (Nat.beq (len l) n) none (orH (setRange h p.b p.o l n)))) = _
  simp only [setCell_eq, setRange_eq, flatV_eq, len_eq, bb_cond, orH_eq, evS]
  cases ev a <;> try rfl
  cases ev x <;> rfl

def oNilc (x : Od) : Opn := fun X ev h => Option.rec none (fun p => some (.val (.ptr p.b p.o) h)) (ptrV (ev x))
theorem oNilc_eq (x : Od) : oNilc x = evS (.nilc x) := by
  funext X ev h
  show oo (ptrV (ev x)) none (fun p => some (OR.val (.ptr p.b p.o) h)) = (match ev x with | .ptr b o => some (OR.val (.ptr b o) h) | _ => none)
  cases ev x <;> rfl
def oFadr (off : Nat) (x : Od) : Opn := fun X ev h => Option.rec none (fun p => some (.val (.ptr p.b (Nat.add p.o off)) h)) (ptrV (ev x))
theorem oFadr_eq (off : Nat) (x : Od) : oFadr off x = evS (.fadr off x) := by
  funext X ev h
  show oo (ptrV (ev x)) none (fun p => some (OR.val (.ptr p.b (Nat.add p.o off)) h)) = (match ev x with | .ptr b o => some (OR.val (.ptr b (Nat.add o off)) h) | _ => none)
  cases ev x <;> rfl

def bI (op : BinOp) (a b : IO_) : Option SV := Bool.rec none (binI op a.k a.n b.n) (sameK a.k b.k)
def bin2 (op : BinOp) (x y : SV) : Option SV :=
  Option.rec (sBin op x y) (fun a => Option.rec (sBin op x y) (fun b =>
    BinOp.rec (motive := fun _ => Option SV) (bI .add a b) (bI .sub a b) (bI .mul a b) (bI .quo a b) (bI .rem a b) (bI .and a b) (bI .or a b) (bI .xor a b)
      (shlI a.k a.n b.n) (shrI a.k a.n b.n) (bI .andNot a b) (bI .eql a b) (bI .neq a b) (bI .lss a b) (bI .leq a b) (bI .gtr a b) (bI .geq a b) op) (intV y)) (intV x)
theorem bI_eq (op : BinOp) (a b : IO_) : bI op a b = (bif sameK a.k b.k then binI op a.k a.n b.n else none) := by
  show bb (sameK a.k b.k) none (binI op a.k a.n b.n) = _
  cases sameK a.k b.k <;> rfl
theorem bin2_eq (op : BinOp) (x y : SV) : bin2 op x y = sBin op x y := by
  show oo (intV x) (sBin op x y) (fun a => oo (intV y) (sBin op x y) (fun b =>
    BinOp.rec (motive := fun _ => Option SV) (bI .add a b) (bI .sub a b) (bI .mul a b) (bI .quo a b) (bI .rem a b) (bI .and a b) (bI .or a b) (bI .xor a b)
      (shlI a.k a.n b.n) (shrI a.k a.n b.n) (bI .andNot a b) (bI .eql a b) (bI .neq a b) (bI .lss a b) (bI .leq a b) (bI .gtr a b) (bI .geq a b) op)) = _
  cases x <;> try rfl
  cases y <;> try rfl
  cases op <;> first | exact bI_eq _ _ _ | rfl
def oBin (op : BinOp) (x y : Od) : Opn := fun X ev h => orV h (bin2 op (ev x) (ev y))
theorem oBin_eq (op : BinOp) (x y : Od) : oBin op x y = evS (.bin op x y) := by
  funext X ev h
  show orV h (bin2 op (ev x) (ev y)) = (match sBin op (ev x) (ev y) with | some v => some (OR.val v h) | none => none)
  rw [bin2_eq, orV_eq]
def oEq (neg : Bool) (e : EqS) (x y : Od) : Opn := fun X ev h => Option.rec none (fun b => some (.val (.bool (Bool.rec b (not b) neg)) h)) (eqV e (ev x) (ev y))
theorem oEq_eq (neg : Bool) (e : EqS) (x y : Od) : oEq neg e x y = evS (.eq neg e x y) := by
  funext X ev h
  show oo (eqV e (ev x) (ev y)) none (fun b => some (OR.val (.bool (bb neg b (not b))) h)) = (match Sh.eqV e (ev x) (ev y) with | some b => some (OR.val (.bool (match neg with | true => !b | false => b)) h) | none => none)
  rw [eqV_eq]
  cases Sh.eqV e (ev x) (ev y) with
  | none => rfl
  | some b => cases neg <;> rfl
def oToInt (k : IntKind) (x : Od) : Opn := fun X ev h => Option.rec none (fun i => some (.val (.int k (wr k i.n)) h)) (intV (ev x))
theorem oToInt_eq (k : IntKind) (x : Od) : oToInt k x = evS (.toInt k x) := by
  funext X ev h
  show oo (intV (ev x)) none (fun i => some (OR.val (.int k (wr k i.n)) h)) = (match ev x with | .int _ n => some (OR.val (.int k (wr k n)) h) | _ => none)
  cases ev x <;> rfl
def oFval (off n : Nat) (ag : Bool) (x : Od) : Opn := fun X ev h => Option.rec none (fun l => orV h (partS l off n ag)) (aggV (ev x))
theorem oFval_eq (off n : Nat) (ag : Bool) (x : Od) : oFval off n ag x = evS (.fval off n ag x) := by
  funext X ev h
  show oo (aggV (ev x)) none (fun l => orV h (partS l off n ag)) = (match ev x with | .agg l => (match Sh.partS l off n ag with | some v => some (OR.val v h) | none => none) | _ => none)
  simp only [partS_eq, orV_eq]
  cases ev x <;> rfl
def natI (n : Int) : Option Nat := Int.rec (fun m => some m) (fun _ => none) n
def natV (x : SV) : Option Nat := Option.rec none (fun i => natI i.n) (intV x)
def oIadrS (es : Nat) (x i : Od) : Opn := fun X ev h =>
  Option.rec none (fun s => Option.rec none (fun i => Bool.rec none (some (.val (.ptr s.b (Nat.add s.o (Nat.mul i es))) h)) (Nat.ble (Nat.succ i) s.n)) (natV (ev i))) (slcV (ev x))
theorem oIadrS_eq (es : Nat) (x i : Od) : oIadrS es x i = evS (.iadrS es x i) := by
  funext X ev h
  show oo (slcV (ev x)) none (fun s => oo (natV (ev i)) none (fun i => bb (Nat.blt i s.n) none (some (OR.val (.ptr s.b (Nat.add s.o (Nat.mul i es))) h)))) = _
  simp only [bb_cond, evS]
  cases ev x <;> try rfl
  cases ev i <;> try rfl
  rename_i k n; cases n <;> rfl
def oIadrA (n es : Nat) (x i : Od) : Opn := fun X ev h =>
  Option.rec none (fun p => Option.rec none (fun i => Bool.rec none (some (.val (.ptr p.b (Nat.add p.o (Nat.mul i es))) h)) (Nat.ble (Nat.succ i) n)) (natV (ev i))) (ptrV (ev x))
theorem oIadrA_eq (n es : Nat) (x i : Od) : oIadrA n es x i = evS (.iadrA n es x i) := by
  funext X ev h
  show oo (ptrV (ev x)) none (fun p => oo (natV (ev i)) none (fun i => bb (Nat.blt i n) none (some (OR.val (.ptr p.b (Nat.add p.o (Nat.mul i es))) h)))) = _
  simp only [bb_cond, evS]
  cases ev x <;> try rfl
  cases ev i <;> try rfl
  rename_i k n; cases n <;> rfl
def oExt (i : Nat) (x : Od) : Opn := fun X ev h => Option.rec none (fun l => orV h (nth l i)) (tupV (ev x))
theorem oExt_eq (i : Nat) (x : Od) : oExt i x = evS (.ext i x) := by
  funext X ev h
  show oo (tupV (ev x)) none (fun l => orV h (nth l i)) = (match ev x with | .tup l => (match l.nth i with | some v => some (OR.val v h) | none => none) | _ => none)
  simp only [nth_eq, orV_eq]
  cases ev x <;> rfl
def oCR (r : Option CR) : Option OR := Option.rec none (fun r => CR.rec (fun v h => some (.val v h)) (fun v h => some (.pan v h)) r) r
theorem oCR_eq (X : Ctx) (f : FuncId) (args : List SV) (h : H) : oCR (X.call f args h) = callV X f args h := by
  unfold callV
  cases X.call f args h with
  | none => rfl
  | some r => cases r <;> rfl
def oCall (f : FuncId) (args : List Od) : Opn := fun X ev h => oCR (X.call f (args.map ev) h)
theorem oCall_eq (f : FuncId) (args : List Od) : oCall f args = evS (.call f args) := by
  funext X ev h; exact oCR_eq _ _ _ _
def fnc? (f : Fn) : Option FuncId := match f with | .func g => some g | _ => none
def callF (X : Ctx) (f : SV) (args : List SV) (h : H) : Option OR :=
  Option.rec (Sh.callF X f args h) (fun o => Option.rec (Sh.callF X f args h) (fun g => Option.rec none (fun a => Option.rec none (fun b => oCR (X.call g (a ++ (args ++ b)) h)) (toListS o.c)) (toListS o.a)) (fnc? o.f)) (fnV f)
theorem callF_eq (X : Ctx) (f : SV) (args : List SV) (h : H) : callF X f args h = Sh.callF X f args h := by
  show oo (fnV f) (Sh.callF X f args h) (fun o => oo (fnc? o.f) (Sh.callF X f args h) (fun g => oo (toListS o.a) none (fun a => oo (toListS o.c) none (fun b => oCR (X.call g (a ++ (args ++ b)) h))))) = _
  cases f <;> try rfl
  rename_i g a c
  cases g <;> try rfl
  simp only [oCR_eq]
  show oo (toListS a) none (fun a => oo (toListS c) none (fun b => callV X _ (a ++ (args ++ b)) h)) = (match toListS a, toListS c with | some a, some b => callV X _ (a ++ (args ++ b)) h | _, _ => none)
  cases toListS a <;> cases toListS c <;> rfl
def oCallv (f : Od) (args : List Od) : Opn := fun X ev h => callF X (ev f) (args.map ev) h
theorem oCallv_eq (f : Od) (args : List Od) : oCallv f args = evS (.callv f args) := by
  funext X ev h; exact callF_eq _ _ _ _
def oLen (x : Od) : Opn := fun X ev h => Option.rec none (fun n => some (.val (.int .i64 (.ofNat n)) h)) (lenV (ev x))
theorem oLen_eq (x : Od) : oLen x = evS (.len x) := by
  funext X ev h
  show oo (lenV (ev x)) none (fun n => some (OR.val (.int .i64 (.ofNat n)) h)) = _
  simp only [evS]; cases ev x <;> rfl
def oApp (es bytes : Nat) (s x : Od) : Opn := fun X ev h => Option.rec none (fun r => appGo es bytes (ev s) r.1 r.2 h) (elems h es (ev x))
theorem oApp_eq (es bytes : Nat) (s x : Od) : oApp es bytes s x = evS (.app es bytes s x) := by
  funext X ev h
  show oo (elems h es (ev x)) none (fun r => appGo es bytes (ev s) r.1 r.2 h) = (match Sh.elems h es (ev x) with | some (n, new) => Sh.appGo es bytes (ev s) n new h | none => none)
  simp only [elems_eq, appGo_eq]
  cases Sh.elems h es (ev x) <;> rfl

def ev1 (o : SOp) : Opn :=
  SOp.rec (motive := fun _ => Opn)
    oMv oPick oNew oBox oBuild oBslice
    oLoad oStore oNilc oBin oEq (fun op x => evS (.un op x)) oToInt (fun x => evS (.toStr x)) (fun x => evS (.toBytes x))
    (fun n x => evS (.s2ap n x)) (fun t x => evS (.mkif t x)) (fun fn a b => evS (.mkfn fn a b)) (evS .mkmap) (fun es bytes z l c => evS (.mkslice es bytes z l c))
    (fun es x lo hi mx => evS (.slcS es x lo hi mx)) (fun n es x lo hi mx => evS (.slcA n es x lo hi mx)) (fun x lo hi => evS (.slcT x lo hi)) oFadr
    oFval oIadrA oIadrS (fun n es ag x i => evS (.ixA n es ag x i)) (fun x i => evS (.ixT x i))
    (fun e z ok x k => evS (.look e z ok x k)) (fun e m k v => evS (.upd e m k v)) (fun a z ok x => evS (.tass a z ok x)) oExt oCall
    oCallv (fun r name args => evS (.invoke r name args)) oLen (fun x => evS (.lenT x)) (fun x => evS (.lenM x)) (fun n => evS (.lenC n)) (fun es x => evS (.cap es x))
    oApp (fun es bytes z s x => evS (.appz es bytes z s x)) (fun es d s => evS (.copy es d s)) (fun x r => evS (.max x r)) (fun x r => evS (.min x r))
    (fun e m k => evS (.del e m k)) (fun m => evS (.clr m)) (evS .recov) (fun f args => evS (.dfr f args)) (fun x => evS (.pan x)) (fun x => evS (.rng x)) (fun it => evS (.nxt it)) (fun it => evS (.ent it)) o
theorem ev1_eq (o : SOp) : ev1 o = evS o := by
  cases o <;> first
    | rfl
    | exact oPick_eq _ _ _ | exact oNew_eq _ _ | exact oBox_eq _ _ | exact oBuild_eq _ _ _ | exact oBslice_eq _ _ _ _ | exact oLoad_eq _ _ _ | exact oStore_eq _ _ _ | exact oNilc_eq _ | exact oBin_eq _ _ _
    | exact oEq_eq _ _ _ _ | exact oToInt_eq _ _ | exact oFadr_eq _ _ | exact oFval_eq _ _ _ _ | exact oIadrA_eq _ _ _ _ | exact oIadrS_eq _ _ _ | exact oExt_eq _ _ | exact oCall_eq _ _ | exact oCallv_eq _ _
    | exact oLen_eq _ | exact oApp_eq _ _ _ _
end
end Go.Sh.K

/-
  The fast form: code, calls; the whole run.
-/
namespace Go.Sh.K
set_option linter.unusedVariables false
noncomputable section

def isB (b : Bool) (v : SV) : Bool := Option.rec false (fun a => Bool.rec (Bool.rec true false a) a b) (boolV v)
def wanted (g : Nat) (gw : Bool) (loc : List SV) : Bool := Bool.rec (isB gw (nthV loc (Nat.sub g 1))) true (Nat.beq g 0)
theorem wanted_eq' (g : Nat) (gw : Bool) (loc : List SV) : wanted g gw loc = Sh.wanted g gw loc := by
  show bb (Nat.beq g 0) (isB gw (nthV loc (Nat.sub g 1))) true = (bif Nat.beq g 0 then true else match nthL loc (Nat.sub g 1) with
    | some (.bool b) => (match b, gw with | true, true => true | false, false => true | _, _ => false)
    | _ => false)
  cases Nat.beq g 0 with
  | true => rfl
  | false =>
    show isB gw (nthV loc (Nat.sub g 1)) = _
    rw [nthV_eq]
    cases nthL loc (Nat.sub g 1) with
    | none => rfl
    | some v => cases v <;> try rfl
                rename_i b; cases b <;> cases gw <;> rfl

def Cont := List SV → T SV → List DefO → PS → H → Option (Ex × St)
def kRec (k : Cont) (dst : Option Pos) (loc : List SV) (tm : T SV) (dfs : List DefO) (p : PS) (h : H) : Option (Ex × St) :=
  match p with
  | .rnd => none
  | .pan v false => k (v :: loc) (setT tm dst v) dfs (.pan v true) h
  | p => k (.nili :: loc) (setT tm dst .nili) dfs p h
def kDfr (k : Cont) (dst : Option Pos) (loc : List SV) (tm : T SV) (dfs : List DefO) (p : PS) (h : H) (d : DefO) : Option (Ex × St) :=
  match p with
  | .rnd => none
  | p => k (und :: loc) (setT tm dst und) (d :: dfs) p h
def kOR (k : Cont) (dst : Option Pos) (loc : List SV) (tm : T SV) (dfs : List DefO) (p : PS) (h : H) (r : OR) : Option (Ex × St) :=
  OR.rec (fun v h => k (v :: loc) (setT tm dst v) dfs p h) (fun v h => some (.pan v, ⟨tm, dfs, p, h⟩)) (kDfr k dst loc tm dfs p h) (kRec k dst loc tm dfs p h) r
def step (X : Ctx) (o : SO) (k : Cont) : Cont := fun loc tm dfs p h =>
  Bool.rec (k (und :: loc) (setT tm o.dst und) dfs p h) (Option.rec none (kOR k o.dst loc tm dfs p h) (ev1 o.op X (evOd loc tm) h)) (wanted o.g o.gw loc)
def runOps (X : Ctx) (l : List SO) : Cont := List.rec (motive := fun _ => Cont) (fun _ tm dfs p h => some (.norm, ⟨tm, dfs, p, h⟩)) (fun o _ ih => step X o ih) l
theorem runOps_eq (X : Ctx) : ∀ (l : List SO) (loc : List SV) (tm : T SV) (dfs : List DefO) (p : PS) (h : H), runOps X l loc tm dfs p h = Sh.runOps X l loc ⟨tm, dfs, p, h⟩
  | [], loc, tm, dfs, p, h => rfl
  | o :: l, loc, tm, dfs, p, h => by
    have ih := runOps_eq X l
    show bb (wanted o.g o.gw loc) (runOps X l (und :: loc) (setT tm o.dst und) dfs p h) (oo (ev1 o.op X (evOd loc tm) h) none (kOR (runOps X l) o.dst loc tm dfs p h)) = _
    rw [wanted_eq', ev1_eq, evOd_eq, setT_eq, ih, Sh.runOps]
    dsimp only
    cases Sh.wanted o.g o.gw loc with
    | false => rfl
    | true =>
      show oo (evS o.op X (Sh.evOd loc tm) h) none (kOR (runOps X l) o.dst loc tm dfs p h) = _
      cases evS o.op X (Sh.evOd loc tm) h with
      | none => rfl
      | some r =>
        cases r with
        | val v h' => show runOps X l (v :: loc) (setT tm o.dst v) dfs p h' = _; rw [ih, setT_eq]
        | pan v h' => rfl
        | dfr d =>
          show kDfr (runOps X l) o.dst loc tm dfs p h d = _
          cases p <;> first | rfl | (simp only [kDfr, ih, setT_eq])
        | recov =>
          show kRec (runOps X l) o.dst loc tm dfs p h = _
          cases p with
          | rnd => rfl
          | non => simp only [kRec, ih, setT_eq]
          | pan v r => cases r <;> simp only [kRec, ih, setT_eq]
def runOpsS (X : Ctx) (l : List SO) (s : St) : Option (Ex × St) := St.rec (fun tm dfs p h => runOps X l [] tm dfs p h) s
theorem runOpsS_eq (X : Ctx) (l : List SO) (s : St) : runOpsS X l s = Sh.runOps X l [] s := by
  cases s; exact runOps_eq X l _ _ _ _ _

def xSeq (a b : St → Option (Ex × St)) (s : St) : Option (Ex × St) :=
  Option.rec none (fun r => Ex.rec (b r.2) (fun n => some r) (some r) (fun v => some r) r.1) (a s)
def xCond (c : Od) (a b : St → Option (Ex × St)) (s : St) : Option (Ex × St) :=
  Option.rec none (fun t => Bool.rec (b s) (a s) t) (boolV (evOd [] s.tm c))
def xBlock (id : Nat) (b : St → Option (Ex × St)) (s : St) : Option (Ex × St) :=
  Option.rec none (fun r => Ex.rec (some r) (fun n => Bool.rec (some r) (some (.norm, r.2)) (Nat.beq n id)) (some r) (fun v => some r) r.1) (b s)
def xLoop (b : St → Option (Ex × St)) (lf : Nat) : St → Option (Ex × St) :=
  Nat.rec (motive := fun _ => St → Option (Ex × St)) (fun _ => none)
    (fun _ ih s => Option.rec none (fun r => Ex.rec (ih r.2) (fun n => some r) (some r) (fun v => some r) r.1) (b s)) lf
theorem xLoop_eq (b : St → Option (Ex × St)) : ∀ (lf : Nat) (s : St), xLoop b lf s = loopN b lf s
  | 0, s => rfl
  | n + 1, s => by
    have ih := xLoop_eq b n
    show oo (b s) none (fun r => Ex.rec (motive := fun _ => Option (Ex × St)) (xLoop b n r.2) (fun n => some r) (some r) (fun v => some r) r.1) = (match b s with | some (.norm, s) => loopN b n s | e => e)
    cases b s with
    | none => rfl
    | some r => obtain ⟨e, s'⟩ := r; cases e <;> first | exact ih s' | rfl
def exec (X : Ctx) (lf : Nat) (c : SC) : St → Option (Ex × St) :=
  SC.rec (motive := fun _ => St → Option (Ex × St))
    (fun s => some (.norm, s))
    (fun l => runOpsS X l)
    (fun l s => runDraw X l s)
    (fun _ _ a b => xSeq a b)
    (fun c _ _ a b => xCond c a b)
    (fun id _ b => xBlock id b)
    (fun _ b => xLoop b lf)
    (fun n s => some (.exit n, s))
    (fun s => some (.ret, s))
    (fun f ps a b _ _ => Sh.exec X lf (.range f ps a b))
    (fun _ => none) c
theorem exec_eq (X : Ctx) (lf : Nat) (c : SC) : exec X lf c = Sh.exec X lf c := by
  induction c with
  | skip => rfl
  | reg l => funext s; exact runOpsS_eq X l s
  | dreg l => rfl
  | seq a b iha ihb =>
    funext s
    show xSeq (exec X lf a) (exec X lf b) s = (match Sh.exec X lf a s with | some (.norm, s) => Sh.exec X lf b s | e => e)
    rw [iha, ihb]
    show oo (Sh.exec X lf a s) none (fun r => Ex.rec (motive := fun _ => Option (Ex × St)) (Sh.exec X lf b r.2) (fun n => some r) (some r) (fun v => some r) r.1) = _
    cases Sh.exec X lf a s with
    | none => rfl
    | some r => obtain ⟨e, s'⟩ := r; cases e <;> rfl
  | cond c a b iha ihb =>
    funext s
    show oo (boolV (evOd [] s.tm c)) none (fun t => bb t (exec X lf b s) (exec X lf a s)) = (match Sh.evOd [] s.tm c with | .bool true => Sh.exec X lf a s | .bool false => Sh.exec X lf b s | _ => none)
    rw [iha, ihb, evOd_eq]
    cases Sh.evOd [] s.tm c <;> try rfl
    rename_i t; cases t <;> rfl
  | block id b ih =>
    funext s
    show xBlock id (exec X lf b) s = (match Sh.exec X lf b s with | some (.exit n, s) => (bif Nat.beq n id then some (.norm, s) else some (.exit n, s)) | e => e)
    rw [ih]
    show oo (Sh.exec X lf b s) none (fun r => Ex.rec (motive := fun _ => Option (Ex × St)) (some r) (fun n => bb (Nat.beq n id) (some r) (some (.norm, r.2))) (some r) (fun v => some r) r.1) = _
    cases Sh.exec X lf b s with
    | none => rfl
    | some r =>
      obtain ⟨e, s'⟩ := r
      cases e with
      | exit n => exact bb_cond _ _ _
      | _ => rfl
  | loop b ih =>
    funext s
    show xLoop (exec X lf b) lf s = loopN (Sh.exec X lf b) lf s
    rw [ih]; exact xLoop_eq _ _ _
  | exit n => rfl
  | ret => rfl
  | range f ps a b _ _ => rfl
  | bad => rfl

/-! Calls. -/
def argsT (ps : List (Option Pos)) : List SV → T SV → Option (T SV) :=
  List.rec (motive := fun _ => List SV → T SV → Option (T SV)) (fun args t => List.rec (some t) (fun _ _ _ => none) args) (fun p _ ih args t => List.rec none (fun v r _ => ih r (setT t p v)) args) ps
theorem argsT_eq (ps : List (Option Pos)) (args : List SV) (t : T SV) : argsT ps args t = Sh.argsT ps args t := by
  induction ps generalizing args t with
  | nil => cases args <;> rfl
  | cons p ps ih =>
    cases args with
    | nil => rfl
    | cons v r => show argsT ps r (setT t p v) = Sh.argsT ps r (Sh.setT t p v); rw [ih, setT_eq]
def resultsS (rs : List SRes) (s : St) : Option (List SV) :=
  List.rec (motive := fun _ => Option (List SV)) (some []) (fun r _ ih => SRes.rec (fun x => Option.rec none (fun l => some (evOd [] s.tm x :: l)) ih) (fun x n ag => Option.rec none (fun v => Option.rec none (fun l => some (v :: l)) ih) (loadS n ag s.h (evOd [] s.tm x))) r) rs
theorem resultsS_eq (rs : List SRes) (s : St) : resultsS rs s = Sh.resultsS rs s := by
  induction rs with
  | nil => rfl
  | cons r rs ih =>
    cases r with
    | tmp x =>
      show oo (resultsS rs s) none (fun l => some (evOd [] s.tm x :: l)) = (match Sh.resultsS rs s with | some l => some (Sh.evOd [] s.tm x :: l) | none => none)
      rw [ih, evOd_eq]
      cases Sh.resultsS rs s <;> rfl
    | cell x n ag =>
      show oo (loadS n ag s.h (evOd [] s.tm x)) none (fun v => oo (resultsS rs s) none (fun l => some (v :: l))) = (match Sh.loadS n ag s.h (Sh.evOd [] s.tm x), Sh.resultsS rs s with | some v, some l => some (v :: l) | _, _ => none)
      rw [ih, evOd_eq, loadS_eq]
      cases Sh.loadS n ag s.h (Sh.evOd [] s.tm x) <;> cases Sh.resultsS rs s <;> rfl
def leaveNil (res : List SRes) (p : PS) (s : St) : Option CR := PS.rec (Option.rec none (fun l => some (.ret (tupled l) s.h)) (resultsS res s)) none (fun v _ => some (.pan v s.h)) p
def leave (dcall : FuncId → List SV → PS → H → Option (PS × H)) (res : List SRes) (ds : List DefO) (p : PS) (s : St) : Option CR :=
  List.rec (leaveNil res p s) (fun _ _ _ => Sh.leave dcall res ds p s) ds
theorem leave_eq (dcall : FuncId → List SV → PS → H → Option (PS × H)) (res : List SRes) (ds : List DefO) (p : PS) (s : St) : leave dcall res ds p s = Sh.leave dcall res ds p s := by
  cases ds with
  | cons d ds => rfl
  | nil =>
    show leaveNil res p s = _
    cases p with
    | rnd => rfl
    | pan v r => rfl
    | non =>
      show oo (resultsS res s) none (fun l => some (CR.ret (tupled l) s.h)) = (match Sh.resultsS res s with | some l => some (CR.ret (tupled l) s.h) | none => none)
      rw [resultsS_eq]
      cases Sh.resultsS res s <;> rfl

section
variable (F : FuncId → Option SFunc) (M : TypeId → String → Option (FuncId × Option (Nat × Bool)))
variable (S : FuncId → Option (List SV → H → Option CR))
def runBody (X : Ctx) (lf : Nat) (f : FuncId) (args : List SV) (pan : PS) (h : H) : Option (List SRes × Ex × St) :=
  Option.rec none (fun fn => Option.rec none (fun t => Option.rec none (fun r => some (fn.res, r.1, r.2)) (exec X lf fn.body ⟨t, [], pan, h⟩)) (argsT fn.ps args .nil)) (F f)
theorem runBody_eq (X : Ctx) (lf : Nat) (f : FuncId) (args : List SV) (pan : PS) (h : H) : runBody F X lf f args pan h = Sh.runBody F X lf f args pan h := by
  show oo (F f) none (fun fn => oo (argsT fn.ps args .nil) none (fun t => oo (exec X lf fn.body ⟨t, [], pan, h⟩) none (fun r => some (fn.res, r.1, r.2)))) = _
  simp only [argsT_eq, exec_eq, Sh.runBody]
  cases F f with
  | none => rfl
  | some fn =>
    dsimp only [oo]
    cases Sh.argsT fn.ps args .nil with
    | none => rfl
    | some t =>
      dsimp only [oo]
      cases Sh.exec X lf fn.body ⟨t, [], pan, h⟩ <;> rfl
def dcall (X : Ctx) (lf : Nat) (f : FuncId) (args : List SV) (p : PS) (h : H) : Option (PS × H) :=
  match runBody F X lf f args p h with
  | some ([], .norm, s) => match s.dfs with | [] => some (s.pan, s.h) | _ => none
  | some ([], .ret, s) => match s.dfs with | [] => some (s.pan, s.h) | _ => none
  | _ => none
theorem dcall_eq (X : Ctx) (lf : Nat) : dcall F X lf = Sh.dcall F X lf := by
  funext f args p h; unfold dcall Sh.dcall; rw [runBody_eq]; rfl
def callB (X : Ctx) (lf : Nat) (f : FuncId) (args : List SV) (h : H) : Option CR :=
  Option.rec none (fun r => Ex.rec (leave (dcall F X lf) r.1 r.2.2.dfs .non r.2.2) (fun _ => none) (leave (dcall F X lf) r.1 r.2.2.dfs .non r.2.2) (fun v => leave (dcall F X lf) r.1 r.2.2.dfs (.pan v false) r.2.2) r.2.1) (runBody F X lf f args .non h)
def callS (X : Ctx) (lf : Nat) (f : FuncId) (args : List SV) (h : H) : Option CR :=
  Option.rec (callB F X lf f args h) (fun g => Option.rec (callB F X lf f args h) (fun r => some r) (g args h)) (S f)
theorem callS_eq (X : Ctx) (lf : Nat) : callS F S X lf = Sh.callS F S X lf := by
  funext f args h
  have hB : callB F X lf f args h = (match Sh.runBody F X lf f args .non h with
      | some (res, .norm, s) => Sh.leave (Sh.dcall F X lf) res s.dfs .non s
      | some (res, .ret, s) => Sh.leave (Sh.dcall F X lf) res s.dfs .non s
      | some (res, .pan v, s) => Sh.leave (Sh.dcall F X lf) res s.dfs (.pan v false) s
      | _ => none) := by
    show oo (runBody F X lf f args .non h) none (fun r => Ex.rec (motive := fun _ => Option CR) (leave (dcall F X lf) r.1 r.2.2.dfs .non r.2.2) (fun _ => none) (leave (dcall F X lf) r.1 r.2.2.dfs .non r.2.2) (fun v => leave (dcall F X lf) r.1 r.2.2.dfs (.pan v false) r.2.2) r.2.1) = _
    simp only [runBody_eq, leave_eq, dcall_eq]
    cases Sh.runBody F X lf f args .non h with
    | none => rfl
    | some r => obtain ⟨a, e, s⟩ := r; cases e <;> rfl
  show oo (S f) (callB F X lf f args h) (fun g => oo (g args h) (callB F X lf f args h) (fun r => some r)) = _
  rw [hB]
  unfold Sh.callS trySum
  cases S f with
  | none => rfl
  | some g =>
    dsimp only [oo]
    cases g args h with
    | some r => rfl
    | none => rfl
def roundS (X : Ctx) (lf : Nat) (l : Pos) (args : List SV) (h : H) : Option (SV × H) :=
  match h.get l with
  | some (.loop o) =>
    match bindT o.params args o.tm with
    | some t =>
      match exec X lf o.assign ⟨t, [], .rnd, h⟩ with
      | some (.norm, s) =>
        match s.h.get l with
        | some (.loop o') =>
          match o'.state with
          | .ready =>
            match exec X lf o.body ⟨s.tm, s.dfs, s.pan, s.h.put l (.loop { o' with state := .busy })⟩ with
            | some (.norm, s) => finR l none s
            | some (.exit n, s) => finR l (some (.exit n)) s
            | some (.ret, s) => finR l (some .ret) s
            | _ => none
          | _ => none
        | _ => none
      | _ => none
    | none => none
  | _ => none
theorem roundS_eq (X : Ctx) (lf : Nat) : roundS X lf = Sh.roundS X lf := by
  funext l args h
  unfold roundS Sh.roundS
  simp only [exec_eq]
  rfl
def ctx (lf : Nat) (n : Nat) : Ctx :=
  Nat.rec (motive := fun _ => Ctx) { call := fun _ _ _ => none, round := fun _ _ _ => none, meth := M }
    (fun _ X => { call := callS F S X lf, round := roundS X lf, meth := M }) n
theorem ctx_eq (lf n : Nat) : ctx F M S lf n = Sh.ctx F M S lf n := by
  induction n with
  | zero => rfl
  | succ n ih =>
    show ({ call := callS F S (ctx F M S lf n) lf, round := roundS (ctx F M S lf n) lf, meth := M } : Ctx) = { call := Sh.callS F S (Sh.ctx F M S lf n) lf, round := Sh.roundS (Sh.ctx F M S lf n) lf, meth := M }
    rw [ih, callS_eq, roundS_eq]
end
end
end Go.Sh.K

/-
  A call, its body taken apart.
-/
namespace Go.Sh
set_option linter.unusedVariables false

def thenS (r : Option (Ex × St)) (f : St → Option (Ex × St)) : Option (Ex × St) :=
  match r with
  | some (.norm, s) => f s
  | e => e

def finS (F : FuncId → Option SFunc) (X : Ctx) (lf : Nat) (res : List SRes) (r : Option (Ex × St)) : Option CR :=
  match r with
  | some (.norm, s) => leave (dcall F X lf) res s.dfs .non s
  | some (.ret, s) => leave (dcall F X lf) res s.dfs .non s
  | some (.pan v, s) => leave (dcall F X lf) res s.dfs (.pan v false) s
  | _ => none

theorem exec_seq (X : Ctx) (lf : Nat) (a b : SC) (s : St) : exec X lf (.seq a b) s = thenS (exec X lf a s) (exec X lf b) := by
  simp only [exec, thenS]; rfl

theorem seq_norm {X : Ctx} {lf : Nat} {a b : SC} {s s' : St} (h : exec X lf a s = some (.norm, s')) : exec X lf (.seq a b) s = exec X lf b s' := by
  rw [exec_seq, h]; rfl
theorem seq_norm2 {X : Ctx} {lf : Nat} {a b c : SC} {s s' : St} (h : exec X lf a s = some (.norm, s')) : exec X lf (.seq (.seq a b) c) s = thenS (exec X lf b s') (exec X lf c) := by
  rw [exec_seq, exec_seq, h]; rfl

theorem call_body {F : FuncId → Option SFunc} {M : TypeId → String → Option (FuncId × Option (Nat × Bool))} {S : FuncId → Option (List SV → H → Option CR)} {lf n : Nat} {f : FuncId} {sf : SFunc} {args : List SV} {h : H} {t : T SV}
    (hS : trySum S f args h = none) (hF : F f = some sf) (ht : argsT sf.ps args .nil = some t) :
    (ctx F M S lf (n + 1)).call f args h = finS F (ctx F M S lf n) lf sf.res (exec (ctx F M S lf n) lf sf.body ⟨t, [], .non, h⟩) := by
  show callS F S (ctx F M S lf n) lf f args h = _
  unfold callS
  rw [hS]
  dsimp only
  unfold runBody finS
  rw [hF]
  dsimp only
  rw [ht]
  dsimp only
  cases exec (ctx F M S lf n) lf sf.body ⟨t, [], .non, h⟩ with
  | none => rfl
  | some r => obtain ⟨e, s⟩ := r; cases e <;> rfl

/-- did it return true? -/
def isTrue (r : Option CR) : Bool :=
  match r with
  | some (.ret (.bool b) _) => b
  | _ => false

theorem isTrue_spec {r : Option CR} (h : isTrue r = true) : ∃ h', r = some (.ret (.bool true) h') := by
  unfold isTrue at h
  split at h
  · subst h; exact ⟨_, rfl⟩
  · cases h

end Go.Sh

/-
  A run over a small memory, lifted: it holds wherever the small memory lies within a greater one.
-/
namespace Go.Sh
set_option linter.unusedVariables false
variable {P : Program} {ρ ρs : Rho} {X : Ctx} {h hs hs' : H} {w : World}

/-- other places. -/
def renS (π : Pos → Pos) : SV → SV
  | .ptr b o => .ptr (π b) o
  | .slc b o n c => .slc (π b) o n c
  | .map b => .map (π b)
  | .fn f a c => .fn f (renS π a) (renS π c)
  | .ifc t v => .ifc t (renS π v)
  | .agg l => .agg (renS π l)
  | .tup l => .tup (renS π l)
  | .cons v l => .cons (renS π v) (renS π l)
  | .byt n v l => .byt n v (renS π l)
  | v => v

theorem ren_both {π : Pos → Pos} {n : Nat} (hρ : ∀ b, num b < n → ρs b = ρ (π b)) : ∀ v, (bdS n v = true → (∀ u, VR ρs v u ↔ VR ρ (renS π v) u)) ∧ (bdS n v = true → (∀ ws, LR ρs v ws ↔ LR ρ (renS π v) ws)) := by
  have hb : ∀ (b : Pos), Nat.blt (natOfPos b) n = true → ρs b = ρ (π b) := fun b h1 => hρ b (by simpa [Nat.blt_eq] using h1)
  intro v
  induction v with
  | bool b => exact ⟨fun _ u => ⟨fun h => (by cases h; exact .bool _), fun h => (by cases h; exact .bool _)⟩, fun _ ws => ⟨fun h => (by cases h), fun h => (by cases h)⟩⟩
  | int k m => exact ⟨fun _ u => ⟨fun h => (by cases h; exact .int _ _), fun h => (by cases h; exact .int _ _)⟩, fun _ ws => ⟨fun h => (by cases h), fun h => (by cases h)⟩⟩
  | str m v => exact ⟨fun _ u => ⟨fun h => (by cases h with | str _ _ s h1 h2 => exact .str _ _ s h1 h2), fun h => (by cases h with | str _ _ s h1 h2 => exact .str _ _ s h1 h2)⟩, fun _ ws => ⟨fun h => (by cases h), fun h => (by cases h)⟩⟩
  | ptr b o => exact ⟨fun hd u => ⟨fun h => (by cases h with | ptr _ _ l h1 => exact .ptr _ _ l ((hb b hd).symm.trans h1)), fun h => (by cases h with | ptr _ _ l h1 => exact .ptr _ _ l ((hb b hd).trans h1))⟩, fun _ ws => ⟨fun h => (by cases h), fun h => (by cases h)⟩⟩
  | nilp => exact ⟨fun _ u => ⟨fun h => (by cases h; exact .nilp), fun h => (by cases h; exact .nilp)⟩, fun _ ws => ⟨fun h => (by cases h), fun h => (by cases h)⟩⟩
  | slc b o m c => exact ⟨fun hd u => ⟨fun h => (by cases h with | slc _ _ _ _ c' l h1 h2 h3 => exact .slc _ _ _ _ c' l ((hb b hd).symm.trans h1) h2 h3), fun h => (by cases h with | slc _ _ _ _ c' l h1 h2 h3 => exact .slc _ _ _ _ c' l ((hb b hd).trans h1) h2 h3)⟩, fun _ ws => ⟨fun h => (by cases h), fun h => (by cases h)⟩⟩
  | nils => exact ⟨fun _ u => ⟨fun h => (by cases h; exact .nils), fun h => (by cases h; exact .nils)⟩, fun _ ws => ⟨fun h => (by cases h), fun h => (by cases h)⟩⟩
  | emp => exact ⟨fun _ u => ⟨fun h => (by cases h; exact .emp _ _), fun h => (by cases h; exact .emp _ _)⟩, fun _ ws => ⟨fun h => (by cases h), fun h => (by cases h)⟩⟩
  | tslc m => exact ⟨fun _ u => ⟨fun h => (by cases h; exact .tslc _ _ _), fun h => (by cases h; exact .tslc _ _ _)⟩, fun _ ws => ⟨fun h => (by cases h), fun h => (by cases h)⟩⟩
  | map b => exact ⟨fun hd u => ⟨fun h => (by cases h with | map _ l h1 => exact .map _ l ((hb b hd).symm.trans h1)), fun h => (by cases h with | map _ l h1 => exact .map _ l ((hb b hd).trans h1))⟩, fun _ ws => ⟨fun h => (by cases h), fun h => (by cases h)⟩⟩
  | nilm => exact ⟨fun _ u => ⟨fun h => (by cases h; exact .nilm), fun h => (by cases h; exact .nilm)⟩, fun _ ws => ⟨fun h => (by cases h), fun h => (by cases h)⟩⟩
  | fn f a c iha ihc =>
    refine ⟨fun hd u => ?_, fun _ ws => ⟨fun h => (by cases h), fun h => (by cases h)⟩⟩
    simp only [bdS, Bool.and_eq_true] at hd
    have hny : ∀ l, f ≠ .yield l := fun l e => by subst e; have := hd.1; simp at this
    constructor
    · intro h
      cases h with
      | fn _ f' _ _ as cs hf h1 h2 =>
        cases hf with
        | same _ hs => exact .fn _ _ _ _ _ _ (.same _ hs) ((iha.2 hd.2.1 _).1 h1) ((ihc.2 hd.2.2 _).1 h2)
        | yield p l hp => exact absurd rfl (hny _)
    · intro h
      cases h with
      | fn _ f' _ _ as cs hf h1 h2 =>
        cases hf with
        | same _ hs => exact .fn _ _ _ _ _ _ (.same _ hs) ((iha.2 hd.2.1 _).2 h1) ((ihc.2 hd.2.2 _).2 h2)
        | yield p l hp => exact absurd rfl (hny _)
  | nilf => exact ⟨fun _ u => ⟨fun h => (by cases h; exact .nilf), fun h => (by cases h; exact .nilf)⟩, fun _ ws => ⟨fun h => (by cases h), fun h => (by cases h)⟩⟩
  | ifc t v ih => exact ⟨fun hd u => ⟨fun h => (by cases h with | ifc _ _ x h1 => exact .ifc _ _ x ((ih.1 hd x).1 h1)), fun h => (by cases h with | ifc _ _ x h1 => exact .ifc _ _ x ((ih.1 hd x).2 h1))⟩, fun _ ws => ⟨fun h => (by cases h), fun h => (by cases h)⟩⟩
  | nili => exact ⟨fun _ u => ⟨fun h => (by cases h; exact .nili), fun h => (by cases h; exact .nili)⟩, fun _ ws => ⟨fun h => (by cases h), fun h => (by cases h)⟩⟩
  | agg l ih => exact ⟨fun hd u => ⟨fun h => (by cases h with | agg _ cs h1 h2 => exact .agg _ cs ((ih.2 hd _).1 h1) h2), fun h => (by cases h with | agg _ cs h1 h2 => exact .agg _ cs ((ih.2 hd _).2 h1) h2)⟩, fun _ ws => ⟨fun h => (by cases h), fun h => (by cases h)⟩⟩
  | tup l ih => exact ⟨fun hd u => ⟨fun h => (by cases h with | tup _ cs h1 => exact .tup _ cs ((ih.2 hd _).1 h1)), fun h => (by cases h with | tup _ cs h1 => exact .tup _ cs ((ih.2 hd _).2 h1))⟩, fun _ ws => ⟨fun h => (by cases h), fun h => (by cases h)⟩⟩
  | nl => exact ⟨fun _ u => ⟨fun h => (by cases h), fun h => (by cases h)⟩, fun _ ws => ⟨fun h => (by cases h; exact .nl), fun h => (by cases h; exact .nl)⟩⟩
  | cons v l ih1 ih2 =>
    refine ⟨fun _ u => ⟨fun h => (by cases h), fun h => (by cases h)⟩, fun hd ws => ?_⟩
    simp only [bdS, Bool.and_eq_true] at hd
    constructor
    · intro h; cases h with | cons _ _ x xs h1 h2 => exact .cons _ _ x xs ((ih1.1 hd.1 x).1 h1) ((ih2.2 hd.2 xs).1 h2)
    · intro h; cases h with | cons _ _ x xs h1 h2 => exact .cons _ _ x xs ((ih1.1 hd.1 x).2 h1) ((ih2.2 hd.2 xs).2 h2)
  | byt m v l ih =>
    refine ⟨fun _ u => ⟨fun h => (by cases h), fun h => (by cases h)⟩, fun hd ws => ?_⟩
    constructor
    · intro h; cases h with | byt _ _ _ xs h1 h2 => exact .byt _ _ _ xs h1 ((ih.2 hd xs).1 h2)
    · intro h; cases h with | byt _ _ _ xs h1 h2 => exact .byt _ _ _ xs h1 ((ih.2 hd xs).2 h2)

/-- the small memory lies within the great one. -/
structure Emb (hs h : H) (π : Pos → Pos) : Prop where
  small : ∀ x o, hs.at_ x = some o → num x < num hs.next
  obj : ∀ x o, hs.at_ x = some o → ∃ l sz g fam fam', o = .row l sz g false fam ∧ h.at_ (π x) = some (.row (renS π l) sz g false fam') ∧ bdS (num hs.next) l = true
  inj : ∀ x y ox oy, hs.at_ x = some ox → hs.at_ y = some oy → π x = π y → x = y

def pull (n : Nat) (π : Pos → Pos) (ρ : Rho) : Rho := fun x => if num x < n then ρ (π x) else none

theorem pull_eq {n : Nat} {π : Pos → Pos} {b : Pos} (h : num b < n) : pull n π ρ b = ρ (π b) := by unfold pull; rw [if_pos h]

theorem RowR.ren {π : Pos → Pos} {n : Nat} {l : SV} {sz g : Nat} {loc : Loc} (hρ : ∀ b, num b < n → ρs b = ρ (π b)) (hb : bdS n l = true) : RowR ρs l sz g loc w ↔ RowR ρ (renS π l) sz g loc w := by
  constructor
  · rintro ⟨h1, h2, c, e, fr, h3, h4, h5, h6, h7⟩
    exact ⟨h1, h2, c, e, fr, h3, ((ren_both hρ l).2 hb _).1 h4, h5, h6, h7⟩
  · rintro ⟨h1, h2, c, e, fr, h3, h4, h5, h6, h7⟩
    exact ⟨h1, h2, c, e, fr, h3, ((ren_both hρ l).2 hb _).2 h4, h5, h6, h7⟩

theorem unshared_apart (hr : HR P ρ h w) {b1 b2 : Pos} {l : SV} {sz g : Nat} {fam : Pos} {o2 : SObj} {l1 l2 : Loc} (h1 : h.at_ b1 = some (.row l sz g false fam)) (h2 : h.at_ b2 = some o2) (r1 : ρ b1 = some l1) (r2 : ρ b2 = some l2) (hn : b1 ≠ b2) : l1.rb ≠ l2.rb := by
  intro e
  obtain ⟨x1, n1, g1, x2, n2, g2, fm, e1, e2⟩ := hr.excl b1 b2 _ o2 l1 l2 h1 h2 r1 r2 hn e
  cases e1

theorem Emb.hr {π : Pos → Pos} (he : Emb hs h π) (hr : HR P ρ h w) : HR P (pull (num hs.next) π ρ) hs w where
  fresh := fun b l hb => by
    unfold pull at hb
    split at hb
    · assumption
    · cases hb
  hfresh := he.small
  lt := fun b l hb => by
    unfold pull at hb
    split at hb
    · exact hr.lt _ l hb
    · cases hb
  obj := fun b o l hb hl => by
    obtain ⟨x, sz, g, fam, fam', rfl, h2, h3⟩ := he.obj b o hb
    rw [pull_eq (he.small b _ hb)] at hl
    exact (RowR.ren (fun b hb => pull_eq hb) h3).2 (hr.obj _ _ l h2 hl)
  excl := fun b1 b2 o1 o2 l1 l2 h1 h2 r1 r2 hn hrb => by
    obtain ⟨x1, sz1, g1, fam1, fam1', rfl, k1, _⟩ := he.obj b1 o1 h1
    obtain ⟨x2, sz2, g2, fam2, fam2', rfl, k2, _⟩ := he.obj b2 o2 h2
    rw [pull_eq (he.small b1 _ h1)] at r1
    rw [pull_eq (he.small b2 _ h2)] at r2
    exact absurd hrb (unshared_apart hr k1 k2 r1 r2 (fun e => hn (he.inj b1 b2 _ _ h1 h2 e)))
  fam := fun b l sz g fam hb => by
    obtain ⟨x, sz', g', fam0, fam', e, _, _⟩ := he.obj b _ hb
    cases e

theorem args_ren {π : Pos → Pos} {n : Nat} (hρ : ∀ b, num b < n → ρs b = ρ (π b)) : ∀ {args : List SV} {us : List Value}, args.all (bdS n) = true → VRs ρ (args.map (renS π)) us → VRs ρs args us
  | [], us, _, h => by cases h; exact .nil
  | v :: args, us, hb, h => by
    rw [List.map_cons] at h
    rw [List.all_cons, Bool.and_eq_true] at hb
    cases h with
    | cons hv h => exact .cons (((ren_both hρ v).1 hb.1 _).2 hv) (args_ren hρ hb.2 h)

/-- what the small run leaves of the great memory: all. -/
theorem Emb.back {π : Pos → Pos} (he : Emb hs h π) (hr : HR P ρ h w) {ρs' : Rho} {w' : World} (hr' : HR P ρs' hs' w') (hx : Ext (pull (num hs.next) π ρ) hs w ρs' hs' w') (hkeep : ∀ x o, hs.at_ x = some o → hs'.at_ x = some o) :
    HR P ρ h w' ∧ Ext ρ h w ρ h w' := by
  have hold : ∀ b, num b < num hs.next → ρs' b = ρ (π b) := by
    intro b hb
    cases e : ρ (π b) with
    | some l => exact hx.le b l (by rw [pull_eq hb]; exact e)
    | none =>
      cases e2 : ρs' b with
      | none => rfl
      | some l => have := hx.new b l e2 (by rw [pull_eq hb]; exact e); omega
  -- a block of the great memory is either one of the small one's, or as it was
  have hblock : ∀ b o l, h.at_ b = some o → ρ b = some l → (∃ x ox, hs.at_ x = some ox ∧ π x = b) ∨ w'.heap[l.rb]? = w.heap[l.rb]? := by
    intro b o l hb hl
    by_cases hc : ∃ x ox, hs.at_ x = some ox ∧ π x = b
    · exact .inl hc
    · right
      refine hx.keep l.rb (hr.lt b l hl) (fun x lx hρx hsx e => ?_)
      cases hox : hs.at_ x with
      | none => rw [hox] at hsx; cases hsx
      | some ox =>
        obtain ⟨y, sz, g, fam, fam', rfl, k1, _⟩ := he.obj x ox hox
        rw [pull_eq (he.small x _ hox)] at hρx
        exact unshared_apart hr k1 hb hρx hl (fun e' => hc ⟨x, _, hox, e'⟩) e
  refine ⟨⟨hr.fresh, hr.hfresh, fun b l hb => Nat.lt_of_lt_of_le (hr.lt b l hb) hx.size, fun b o l hb hl => ?_, hr.excl, hr.fam⟩,
    ⟨Le.refl _, fun b l h1 h2 => (by rw [h1] at h2; cases h2), Nat.le_refl _, hx.size, fun r hlt hn => ?_, fun b l h1 h2 => (by rw [h1] at h2; cases h2), fun _ _ _ => .inl rfl, fun _ _ h => h, hx.os, hx.output, hx.tape⟩⟩
  · by_cases hc : ∃ x ox, hs.at_ x = some ox ∧ π x = b
    · obtain ⟨x, ox, hox, rfl⟩ := hc
      obtain ⟨y, sz, g, fam, fam', rfl, k1, k2⟩ := he.obj x ox hox
      rw [hb] at k1; cases k1
      have hlt := he.small x _ hox
      have := hr'.obj x _ l (hkeep x _ hox) (by rw [hold x hlt]; exact hl)
      exact (RowR.ren hold k2).1 this
    · have hb' := (hblock b o l hb hl).resolve_left hc
      refine (hr.obj b o l hb hl).keep (Le.refl _) hb' (fun m lm es ver hm hat => ⟨hat, ?_⟩)
      refine (hblock m _ lm hat hm).resolve_left ?_
      rintro ⟨x, ox, hox, rfl⟩
      obtain ⟨y, sz, g, fam, fam', rfl, k1, _⟩ := he.obj x ox hox
      rw [hat] at k1; cases k1
  · refine hx.keep r hlt (fun x lx hρx hsx e => ?_)
    cases hox : hs.at_ x with
    | none => rw [hox] at hsx; cases hsx
    | some ox =>
      obtain ⟨y, sz, g, fam, fam', rfl, k1, _⟩ := he.obj x ox hox
      rw [pull_eq (he.small x _ hox)] at hρx
      exact hn (π x) lx hρx (by rw [k1]; rfl) e

/-- THE LIFT. -/
theorem lift (hX : SoundX P X) {π : Pos → Pos} (he : Emb hs h π) (hr : HR P ρ h w) {f : FuncId} {args : List SV} {v : SV} (hrun : X.call f args hs = some (.ret v hs')) (hkeep : ∀ x o, hs.at_ x = some o → hs'.at_ x = some o)
    {us : Array Value} (hb : args.all (bdS (num hs.next)) = true) (hu : VRs ρ (args.map (renS π)) us.toList) :
    (callFunc f us).run P w = .ok (.enter f us) w ∧ Calls P f us w (fun e w' => ∃ u ρs', e = .returned u ∧ VR ρs' v u ∧ HR P ρs' hs' w' ∧ Ext (pull (num hs.next) π ρ) hs w ρs' hs' w' ∧ HR P ρ h w' ∧ Ext ρ h w ρ h w') := by
  obtain ⟨h1, h2⟩ := hX.call hrun (he.hr hr) (args_ren (fun b hb => pull_eq hb) hb hu)
  refine ⟨h1, h2.mono (fun e w' hE => ?_)⟩
  obtain ⟨ρs', u, k1, k2, k3, k4⟩ := hE
  obtain ⟨k5, k6⟩ := he.back hr k3 k4 hkeep
  exact ⟨u, ρs', k1, k2, k3, k4, k5, k6⟩

/-- a block becomes a row of the shadow's. -/
theorem HR.track (hr : HR P ρ h w) {l : SV} {sz g : Nat} {loc : Loc} (hlt : loc.rb < w.heap.size) (hn : ∀ b lb, ρ b = some lb → (h.at_ b).isSome = true → lb.rb ≠ loc.rb) (ho : RowR ρ l sz g loc w) :
    HR P (upd ρ h.next loc) (h.newRow l sz g) w := by
  have hnx := hr.none_of_next
  have hat : ∀ x, (h.newRow l sz g).at_ x = if x = h.next then some (.row l sz g false h.next) else h.at_ x := fun x => T.get_put _ _ _ _
  have hnn : num (h.newRow l sz g).next = num h.next + 1 := num_succ _
  refine ⟨fun b lb hb => ?_, fun b o hb => ?_, fun b lb hb => ?_, fun b o lb hb hlb => ?_, fun b1 b2 o1 o2 l1 l2 h1 h2 r1 r2 hne hrb => ?_, fun b l' sz' g' fam hb => ?_⟩
  · unfold upd at hb
    split at hb
    · rename_i e; subst e; omega
    · have := hr.fresh b lb hb; omega
  · rw [hat] at hb
    split at hb
    · rename_i e; subst e; omega
    · have := hr.hfresh b o hb; omega
  · unfold upd at hb
    split at hb
    · cases hb; exact hlt
    · exact hr.lt b lb hb
  · rw [hat] at hb
    by_cases e : b = h.next
    · subst e
      rw [if_pos rfl] at hb; cases hb
      rw [upd_same] at hlb; cases hlb
      obtain ⟨k1, k2, c, e, fr, k3, k4, k5, k6, k7⟩ := ho
      exact ⟨k1, k2, c, e, fr, k3, k4.mono (upd_le hnx), k5, k6, k7⟩
    · rw [if_neg e] at hb
      rw [upd_other loc e] at hlb
      refine (hr.obj b o lb hb hlb).keep (upd_le hnx) rfl (fun m lm es ver hm hat' => ⟨?_, rfl⟩)
      rw [hat, if_neg (fun e' => by subst e'; rw [hnx] at hm; cases hm)] at hat'
      exact hat'
  · rw [hat] at h1 h2
    unfold upd at r1 r2
    by_cases c1 : b1 = h.next
    · by_cases c2 : b2 = h.next
      · exact absurd (c1.trans c2.symm) hne
      · rw [if_pos c1] at r1; rw [if_neg c2] at r2 h2; cases r1
        exact absurd hrb.symm (hn b2 l2 r2 (by rw [h2]; rfl))
    · by_cases c2 : b2 = h.next
      · rw [if_neg c1] at r1 h1; rw [if_pos c2] at r2; cases r2
        exact absurd hrb (hn b1 l1 r1 (by rw [h1]; rfl))
      · rw [if_neg c1] at r1 h1; rw [if_neg c2] at r2 h2
        exact hr.excl b1 b2 o1 o2 l1 l2 h1 h2 r1 r2 hne hrb
  · rw [hat] at hb
    split at hb
    · cases hb
    · exact hr.fam b l' sz' g' fam hb

theorem Ext.track {ρ0 : Rho} {h0 : H} {w0 : World} (hx : Ext ρ0 h0 w0 ρ h w) (hnx : ρ h.next = none) {l : SV} {sz g : Nat} {loc : Loc} (hge : w0.heap.size ≤ loc.rb) : Ext ρ0 h0 w0 (upd ρ h.next loc) (h.newRow l sz g) w := by
  have hat : ∀ x, (h.newRow l sz g).at_ x = if x = h.next then some (.row l sz g false h.next) else h.at_ x := fun x => T.get_put _ _ _ _
  have hnn : num (h.newRow l sz g).next = num h.next + 1 := num_succ _
  have hlow : ∀ b, num b < num h0.next → b ≠ h.next := fun b hb e => by subst e; have := hx.next; omega
  refine ⟨hx.le.trans (upd_le hnx), fun b lb hb hb0 => ?_, by have := hx.next; omega, hx.size, hx.keep, fun b lb hb hb0 => ?_, fun b hb hlt => ?_, fun b hlt hb => ?_, hx.os, hx.output, hx.tape⟩
  · unfold upd at hb
    split at hb
    · rename_i e; subst e; exact hx.next
    · exact hx.new b lb hb hb0
  · unfold upd at hb
    split at hb
    · cases hb; exact .inl hge
    · exact hx.newrb b lb hb hb0
  · rw [hat, if_neg (hlow b hlt)]; exact hx.dead b hb hlt
  · rw [hat, if_neg (hlow b hlt)]; exact hx.gone b hlt hb

/-- a result that is new: where its block lies. -/
theorem new_block {w' : World} {ρs' : Rho} (hr' : HR P ρs' hs' w') (hx : Ext ρs hs w ρs' hs' w') (hkeep : ∀ x o, hs.at_ x = some o → hs'.at_ x = some o) {q : Pos} {l : SV} {sz g : Nat} {fam : Pos} {loc : Loc} (hq : hs'.at_ q = some (.row l sz g false fam)) (hl : ρs' q = some loc) (hn : ρs q = none) (hqn : hs.at_ q = none) :
    w.heap.size ≤ loc.rb := by
  rcases hx.newrb q loc hl hn with h | ⟨b0, l0, k1, k2, k3⟩
  · exact h
  · exfalso
    cases hb : hs.at_ b0 with
    | none => rw [hb] at k2; cases k2
    | some o =>
      exact unshared_apart hr' hq (hkeep b0 o hb) hl (hx.le b0 l0 k1) (fun e => by subst e; rw [hqn] at hb; cases hb) k3.symm

/-- the small run comes to a new row behind a pointer, and a number. -/
theorem lift_open (hX : SoundX P X) {π : Pos → Pos} (he : Emb hs h π) (hr : HR P ρ h w) {f : FuncId} {args : List SV} {q : Pos} {k : IntKind} {m : Int} {l : SV} {sz g : Nat} {fam : Pos}
    (hrun : X.call f args hs = some (.ret (.tup (.cons (.ptr q 0) (.cons (.int k m) .nl))) hs')) (hkeep : ∀ x o, hs.at_ x = some o → hs'.at_ x = some o) (hq : hs'.at_ q = some (.row l sz g false fam)) (hqn : num hs.next ≤ num q) (hlb : bdS (num hs.next) l = true)
    {us : Array Value} (hb : args.all (bdS (num hs.next)) = true) (hu : VRs ρ (args.map (renS π)) us.toList) :
    (callFunc f us).run P w = .ok (.enter f us) w ∧ Calls P f us w (EndR P ρ h w (.ret (.tup (.cons (.ptr h.next 0) (.cons (.int k m) .nl))) (h.newRow (renS π l) sz g))) := by
  obtain ⟨h1, h2⟩ := lift hX he hr hrun hkeep hb hu
  refine ⟨h1, h2.mono (fun e w' hE => ?_)⟩
  obtain ⟨u, ρs', rfl, k2, k3, k4, k5, k6⟩ := hE
  have hold : ∀ b, num b < num hs.next → ρs' b = ρ (π b) := by
    intro b hb
    cases e : ρ (π b) with
    | some l => exact k4.le b l (by rw [pull_eq hb]; exact e)
    | none =>
      cases e2 : ρs' b with
      | none => rfl
      | some l => have := k4.new b l e2 (by rw [pull_eq hb]; exact e); omega
  have hqs : hs.at_ q = none := by
    cases e : hs.at_ q with
    | none => rfl
    | some o => have := he.small q o e; omega
  have hρq : pull (num hs.next) π ρ q = none := by unfold pull; rw [if_neg (by omega)]
  cases k2 with
  | tup _ vs hl =>
    cases vs with
    | mk vs =>
      cases hl with
      | cons _ _ u1 us1 hv1 hl =>
        cases hl with
        | cons _ _ u2 us2 hv2 hl =>
          cases hl
          cases hv2
          cases hv1 with
          | ptr _ _ loc hloc =>
            have hge := new_block k3 k4 hkeep hq hloc hρq hqs
            have hrow : RowR ρ (renS π l) sz g loc w' := (RowR.ren hold hlb).1 (k3.obj q _ loc hq hloc)
            have hnx := k5.none_of_next
            refine ⟨upd ρ h.next loc, _, rfl, .tup _ _ (.cons _ _ _ _ (.ptr _ 0 loc (upd_same _ _)) (.cons _ _ _ _ (.int _ _) .nl)), k5.track (k3.lt q loc hloc) (fun b lb hb _ e => ?_) hrow, k6.track hnx hge⟩
            have := hr.lt b lb hb
            omega

/-- the small run comes to a number. -/
theorem lift_num (hX : SoundX P X) {π : Pos → Pos} (he : Emb hs h π) (hr : HR P ρ h w) {f : FuncId} {args : List SV} {v : SV} (hrun : X.call f args hs = some (.ret v hs')) (hkeep : ∀ x o, hs.at_ x = some o → hs'.at_ x = some o) (hv : bdS 0 v = true)
    {us : Array Value} (hb : args.all (bdS (num hs.next)) = true) (hu : VRs ρ (args.map (renS π)) us.toList) :
    (callFunc f us).run P w = .ok (.enter f us) w ∧ Calls P f us w (EndR P ρ h w (.ret (renS π v) h)) := by
  obtain ⟨h1, h2⟩ := lift hX he hr hrun hkeep hb hu
  refine ⟨h1, h2.mono (fun e w' hE => ?_)⟩
  obtain ⟨u, ρs', rfl, k2, k3, k4, k5, k6⟩ := hE
  exact ⟨ρ, u, rfl, ((ren_both (ρs := ρs') (ρ := ρ) (π := π) (n := 0) (fun b hb => absurd hb (Nat.not_lt_zero _)) v).1 hv u).1 k2, k5, k6⟩

end Go.Sh

/-
  Checks of small runs, and summaries that come of them.
-/
namespace Go.Sh
set_option linter.unusedVariables false
variable {P : Program} {ρ : Rho} {X : Ctx} {h : H} {w : World}

/-- the row stands there, alone in its memory. -/
def hasRow (h : H) (b : Pos) (l : SV) (sz g : Nat) : Bool :=
  match h.get b with
  | some (.row l' sz' g' false _) => l'.same l && (Nat.beq sz' sz && Nat.beq g' g)
  | _ => false

theorem hasRow_spec {b : Pos} {l : SV} {sz g : Nat} (hb : hasRow h b l sz g = true) : ∃ fam, h.at_ b = some (.row l sz g false fam) := by
  unfold hasRow at hb
  split at hb
  · rename_i l' sz' g' fam e
    rw [Bool.and_eq_true, Bool.and_eq_true] at hb
    obtain ⟨h1, h2, h3⟩ := hb
    have h1 := SV.same_eq _ _ h1
    have h2 := Nat.eq_of_beq_eq_true h2
    have h3 := Nat.eq_of_beq_eq_true h3
    subst h1 h2 h3
    exact ⟨fam, e⟩
  · cases hb

/-- the row stands there, of this family. -/
def keepsRow (h : H) (b : Pos) (l : SV) (sz g : Nat) (fam : Pos) : Bool :=
  match h.get b with
  | some (.row l' sz' g' false fam') => l'.same l && (Nat.beq sz' sz && (Nat.beq g' g && fam'.beq fam))
  | _ => false

theorem keepsRow_spec {b : Pos} {l : SV} {sz g : Nat} {fam : Pos} (hb : keepsRow h b l sz g fam = true) : h.at_ b = some (.row l sz g false fam) := by
  unfold keepsRow at hb
  split at hb
  · rename_i l' sz' g' fam' e
    simp only [Bool.and_eq_true] at hb
    obtain ⟨h1, h2, h3, h4⟩ := hb
    have h1 := SV.same_eq _ _ h1
    have h2 := Nat.eq_of_beq_eq_true h2
    have h3 := Nat.eq_of_beq_eq_true h3
    have h4 := Pos.beq_iff.1 h4
    subst h1 h2 h3 h4
    exact e
  · cases hb

/-! One row. -/
def one (l : SV) (sz g : Nat) : H := (⟨.h, .nil, .nil⟩ : H).newRow l sz g

theorem one_at (l : SV) (sz g : Nat) (x : Pos) : (one l sz g).at_ x = if x = .h then some (.row l sz g false .h) else none := by
  show T.get x (T.put _ _ _) = _
  rw [T.get_put, T.get_nil]

theorem one_emb {l : SV} {sz g : Nat} {b : Pos} {fam : Pos} (hb : h.at_ b = some (.row l sz g false fam)) (hl : renS (fun _ => b) l = l) (hbd : bdS 1 l = true) : Emb (one l sz g) h (fun _ => b) where
  small := fun x o hx => by
    rw [one_at] at hx
    split at hx
    · rename_i e; subst e; exact Nat.zero_lt_one
    · cases hx
  obj := fun x o hx => by
    rw [one_at] at hx
    split at hx
    · rename_i e; subst e
      cases hx
      exact ⟨l, sz, g, .h, fam, rfl, by rw [hl]; exact hb, hbd⟩
    · cases hx
  inj := fun x y ox oy hx hy _ => by
    rw [one_at] at hx hy
    split at hx
    · rename_i e1
      split at hy
      · rename_i e2; rw [e1, e2]
      · cases hy
    · cases hx

/-- a value without places, and the row as it was. -/
def okNum (l : SV) (sz g : Nat) (v : SV) (r : Option CR) : Bool :=
  match r with
  | some (.ret v' h') => v'.same v && keepsRow h' .h l sz g .h
  | _ => false

theorem okNum_spec {l : SV} {sz g : Nat} {v : SV} {r : Option CR} (hk : okNum l sz g v r = true) : ∃ h', r = some (.ret v h') ∧ ∀ x o, (one l sz g).at_ x = some o → h'.at_ x = some o := by
  unfold okNum at hk
  split at hk
  · rename_i v' h'
    rw [Bool.and_eq_true] at hk
    have h1 := SV.same_eq _ _ hk.1
    subst h1
    refine ⟨h', rfl, fun x o hx => ?_⟩
    rw [one_at] at hx
    split at hx
    · rename_i e; subst e
      cases hx
      exact keepsRow_spec hk.2
    · cases hx
  · cases hk

theorem sum_num (hX : SoundX P X) (hr : HR P ρ h w) {f : FuncId} {l : SV} {sz g : Nat} {v : SV} {b : Pos} {fam : Pos} {args : List SV} {us : Array Value} (hk : okNum l sz g v (X.call f args (one l sz g)) = true) (hb : h.at_ b = some (.row l sz g false fam))
    (hl : renS (fun _ => b) l = l) (hbd : bdS 1 l = true) (hv : bdS 0 v = true) (hab : args.all (bdS 1) = true) (hu : VRs ρ (args.map (renS (fun _ => b))) us.toList) :
    (callFunc f us).run P w = .ok (.enter f us) w ∧ Calls P f us w (EndR P ρ h w (.ret (renS (fun _ => b) v) h)) := by
  obtain ⟨h', h1, h2⟩ := okNum_spec hk
  exact lift_num hX (one_emb hb hl hbd) hr h1 h2 hv hab hu

/-! Two rows. -/
def two (l1 : SV) (sz1 g1 : Nat) (l2 : SV) (sz2 g2 : Nat) : H := (one l1 sz1 g1).newRow l2 sz2 g2
def pi2 (b1 b2 : Pos) (x : Pos) : Pos := match x with | .h => b1 | _ => b2

theorem two_at (l1 : SV) (sz1 g1 : Nat) (l2 : SV) (sz2 g2 : Nat) (x : Pos) :
    (two l1 sz1 g1 l2 sz2 g2).at_ x = if x = .o .h then some (.row l2 sz2 g2 false (.o .h)) else if x = .h then some (.row l1 sz1 g1 false .h) else none := by
  show T.get x (T.put _ _ _) = _
  rw [T.get_put]
  have := one_at l1 sz1 g1 x
  unfold H.at_ at this
  rw [this]; rfl

theorem two_emb {l1 l2 : SV} {sz1 g1 sz2 g2 : Nat} {b1 b2 : Pos} {fam1 fam2 : Pos} (h1 : h.at_ b1 = some (.row (renS (pi2 b1 b2) l1) sz1 g1 false fam1)) (h2 : h.at_ b2 = some (.row (renS (pi2 b1 b2) l2) sz2 g2 false fam2)) (hne : b1 ≠ b2)
    (hb1 : bdS 2 l1 = true) (hb2 : bdS 2 l2 = true) : Emb (two l1 sz1 g1 l2 sz2 g2) h (pi2 b1 b2) where
  small := fun x o hx => by
    rw [two_at] at hx
    split at hx
    · rename_i e; subst e; exact Nat.lt_succ_self 1
    · split at hx
      · rename_i e; subst e; exact Nat.zero_lt_succ 1
      · cases hx
  obj := fun x o hx => by
    rw [two_at] at hx
    split at hx
    · rename_i e; subst e
      cases hx
      exact ⟨l2, sz2, g2, _, fam2, rfl, h2, hb2⟩
    · split at hx
      · rename_i e; subst e
        cases hx
        exact ⟨l1, sz1, g1, _, fam1, rfl, h1, hb1⟩
      · cases hx
  inj := fun x y ox oy hx hy hπ => by
    rw [two_at] at hx hy
    have hcase : ∀ z oz, (if z = Pos.o .h then some (SObj.row l2 sz2 g2 false (.o .h)) else if z = .h then some (.row l1 sz1 g1 false .h) else none) = some oz → z = .o .h ∨ z = .h := by
      intro z oz hz
      split at hz
      · rename_i e; exact .inl e
      · split at hz
        · rename_i e; exact .inr e
        · cases hz
    rcases hcase x ox hx with rfl | rfl <;> rcases hcase y oy hy with rfl | rfl
    · rfl
    · exact absurd hπ.symm hne
    · exact absurd hπ hne
    · rfl

/-- a new row behind a pointer, and a number; the rows as they were. -/
def okOpen (l1 : SV) (sz1 g1 : Nat) (l2 : SV) (sz2 g2 : Nat) (k : IntKind) (m : Int) (l : SV) (sz g : Nat) (r : Option CR) : Bool :=
  match r with
  | some (.ret (.tup (.cons (.ptr q 0) (.cons v .nl))) h') => v.same (.int k m) && (Nat.ble 2 (natOfPos q) && (hasRow h' q l sz g && (keepsRow h' .h l1 sz1 g1 .h && keepsRow h' (.o .h) l2 sz2 g2 (.o .h))))
  | _ => false

theorem sum_open (hX : SoundX P X) (hr : HR P ρ h w) {f : FuncId} {l1 l2 : SV} {sz1 g1 sz2 g2 : Nat} {b1 b2 : Pos} {fam1 fam2 : Pos} {k : IntKind} {m : Int} {l : SV} {sz g : Nat} {args : List SV} {us : Array Value}
    (hk : okOpen l1 sz1 g1 l2 sz2 g2 k m l sz g (X.call f args (two l1 sz1 g1 l2 sz2 g2)) = true)
    (h1 : h.at_ b1 = some (.row (renS (pi2 b1 b2) l1) sz1 g1 false fam1)) (h2 : h.at_ b2 = some (.row (renS (pi2 b1 b2) l2) sz2 g2 false fam2)) (hne : b1 ≠ b2)
    (hb1 : bdS 2 l1 = true) (hb2 : bdS 2 l2 = true) (hbl : bdS 2 l = true) (hab : args.all (bdS 2) = true) (hu : VRs ρ (args.map (renS (pi2 b1 b2))) us.toList) :
    (callFunc f us).run P w = .ok (.enter f us) w ∧ Calls P f us w (EndR P ρ h w (.ret (.tup (.cons (.ptr h.next 0) (.cons (.int k m) .nl))) (h.newRow (renS (pi2 b1 b2) l) sz g))) := by
  unfold okOpen at hk
  split at hk
  · rename_i q v h' e
    simp only [Bool.and_eq_true] at hk
    obtain ⟨c1, c2, c3, c4, c5⟩ := hk
    have c1 := SV.same_eq _ _ c1
    subst c1
    have c2 := Nat.le_of_ble_eq_true c2
    obtain ⟨fam, c3⟩ := hasRow_spec c3
    have c4 := keepsRow_spec c4
    have c5 := keepsRow_spec c5
    refine lift_open hX (two_emb h1 h2 hne hb1 hb2) hr e (fun x o hx => ?_) c3 c2 hbl hab hu
    rw [two_at] at hx
    split at hx
    · rename_i ex; subst ex; cases hx; exact c5
    · split at hx
      · rename_i ex; subst ex; cases hx; exact c4
      · cases hx
  · cases hk

end Go.Sh

/-
  crc.Sum: what its code computes.
-/
namespace Go.Sh
set_option linter.unusedVariables false

namespace Crc
abbrev tt (n : Nat) : Od := .tmp (Pos.ofNat n)
abbrev q (n : Nat) : Option Pos := some (Pos.ofNat n)
abbrev u (d : Option Pos) (op : SOp) : SO := ⟨0, false, d, op⟩
abbrev ci (k : IntKind) (n : Nat) : Od := .cst (.int k (.ofNat n))
def out : Nat := 14514072000185962306
def bitC : SC := .seq (.reg [u none (.mv (tt 3)), u none (.bin .and (.loc 0) (ci .u64 1)), u none (.un .neg (.loc 0)), u (q 6) (.mv (.loc 0))])
  (.reg [u none (.mv (tt 3)), u none (.bin .shr (.loc 0) (ci .u64 1)), u none (.mv (tt 6)), u none (.bin .and (ci .u64 14514072000185962306) (.loc 0)), u none (.bin .xor (.loc 2) (.loc 0)), u (q 3) (.mv (.loc 0))])
def incJ : SC := .reg [u none (.bin .add (tt 17) (ci .i64 1)), u (q 17) (.mv (.loc 0))]
def bitB : SC := .seq (.reg [u (q 18) (.bin .lss (tt 17) (ci .i64 8))]) (.seq (.cond (tt 18) .skip (.exit 2)) (.seq (.block 3 bitC) incJ))
def byteB : SC := .seq (.reg [u none (.iadrS 1 (tt 7) (tt 9)), u none (.load 1 false (.loc 0)), u (q 5) (.mv (.loc 0))])
  (.seq (.reg [u none (.mv (tt 3)), u none (.mv (tt 5)), u none (.toInt .u64 (.loc 0)), u none (.bin .xor (.loc 2) (.loc 0)), u (q 3) (.mv (.loc 0))])
    (.seq (.reg [u (q 17) (.mv (ci .i64 0))]) (.block 2 (.loop bitB))))
def incI : SC := .reg [u none (.bin .add (tt 9) (ci .i64 1)), u (q 9) (.mv (.loc 0))]
def loopB : SC := .seq (.reg [u (q 10) (.bin .lss (tt 9) (tt 8))]) (.seq (.cond (tt 10) .skip (.exit 0)) (.seq (.block 1 byteB) incI))
def code : SFunc := ⟨[q 0], [.tmp (tt 2)], .seq (.reg [u (q 2) (.mv (ci .u64 0))]) (.seq (.reg [u (q 3) (.mv (ci .u64 18446744073709551615))])
  (.seq (.seq (.reg [u (q 7) (.mv (tt 0)), u (q 8) (.len (.loc 0)), u (q 9) (.mv (ci .i64 0))]) (.block 0 (.loop loopB)))
    (.seq (.reg [u none (.mv (tt 3)), u none (.un .xor (.loc 0)), u (q 2) (.mv (.loc 0))]) .ret)))⟩

def crcBit (n : Nat) : Nat := bif Nat.beq (Nat.mod n 2) 1 then Nat.xor (Nat.div n 2) 14514072000185962306 else Nat.div n 2
def bits : Nat → Nat → Nat
  | 0, c => c
  | n + 1, c => bits n (crcBit c)
def crcByte (n : Nat) : Nat := crcBit (crcBit (crcBit (crcBit (crcBit (crcBit (crcBit (crcBit n)))))))
def crcN : Nat → Nat → Nat → Nat
  | 0, _, c => c
  | k + 1, v, c => crcN k (Nat.div v 256) (crcByte (Nat.xor c (Nat.mod v 256)))
def crcOf (n v : Nat) : Nat := Nat.xor 18446744073709551615 (crcN n v 18446744073709551615)

variable {X : Ctx} {lf : Nat}

def g (s : St) (n : Nat) : Option SV := T.get (Pos.ofNat n) s.tm

/-- nothing but temporaries has turned, and of these not the ones that count. -/
structure Same (s s' : St) : Prop where
  dfs : s'.dfs = s.dfs
  pan : s'.pan = s.pan
  h : s'.h = s.h

theorem Same.refl (s : St) : Same s s := ⟨rfl, rfl, rfl⟩
theorem Same.trans {a b c : St} (x : Same a b) (y : Same b c) : Same a c := ⟨y.dfs.trans x.dfs, y.pan.trans x.pan, y.h.trans x.h⟩

theorem lt_two (c : Nat) (hc : c < 2 ^ 64) : crcBit c < 2 ^ 64 := by
  have h2 : c / 2 < 2 ^ 64 := by omega
  have h3 : (14514072000185962306 : Nat) < 2 ^ 64 := by decide
  show (bif Nat.beq (c % 2) 1 then Nat.xor (c / 2) 14514072000185962306 else c / 2) < 2 ^ 64
  cases Nat.beq (c % 2) 1 with
  | true => exact Nat.xor_lt_two_pow h2 h3
  | false => exact h2

theorem bits_lt : ∀ (n c : Nat), c < 2 ^ 64 → bits n c < 2 ^ 64
  | 0, c, h => h
  | n + 1, c, h => bits_lt n _ (lt_two c h)

theorem wr_u64 {m : Nat} (h : m < 2 ^ 64) : wr .u64 (.ofNat m) = .ofNat m := by
  unfold wr
  have : Nat.blt m (lim .u64) = true := blt_true h
  simp only [this, cond_true]
theorem wr_i64 {m : Nat} (h : m < 2 ^ 63) : wr .i64 (.ofNat m) = .ofNat m := by
  unfold wr
  have : Nat.blt m (lim .i64) = true := blt_true h
  simp only [this, cond_true]
theorem resid_u64 {m : Nat} (h : m < 2 ^ 64) : resid .u64 (.ofNat m) = m := Nat.mod_eq_of_lt h

theorem and_one (c : Nat) : Nat.land c 1 = c % 2 := Nat.and_one_is_mod c
theorem and_all (c : Nat) (h : c < 2 ^ 64) : Nat.land c 18446744073709551615 = c := by
  have : (18446744073709551615 : Nat) = 2 ^ 64 - 1 := by decide
  show c &&& 18446744073709551615 = c
  rw [this, Nat.and_two_pow_sub_one_eq_mod, Nat.mod_eq_of_lt h]

theorem get_other {s : St} {n m : Nat} {v : SV} (h : n ≠ m) : T.get (Pos.ofNat n) (T.put (some v) (Pos.ofNat m) s.tm) = g s n := by
  rw [T.get_put, if_neg (fun e => h (ofNat_inj e))]; rfl

theorem exec_reg (l : List SO) (s : St) : exec X lf (.reg l) s = runOps X l [] s := rfl
theorem step {d : Option Pos} {op : SOp} {r : List SO} {loc : List SV} {s : St} {v : SV} {h' : H}
    (e : evS op X (evOd loc s.tm) s.h = some (.val v h')) :
    runOps X (u d op :: r) loc s = runOps X r (v :: loc) ⟨setT s.tm d v, s.dfs, s.pan, h'⟩ := by
  have hw : wanted (u d op).g (u d op).gw loc = true := rfl
  rw [runOps]
  simp only [hw, e]

/-- one bit. -/
theorem bitC_run {s : St} {c : Nat} (hc : c < 2 ^ 64) (h3 : g s 3 = some (.int .u64 (.ofNat c))) :
    ∃ s', exec X lf bitC s = some (.norm, s') ∧ Same s s' ∧ g s' 3 = some (.int .u64 (.ofNat (crcBit c))) ∧ ∀ n, n ≠ 3 → n ≠ 6 → g s' n = g s n := by
  have e1 : wr .u64 (.ofNat (Nat.land (resid .u64 (.ofNat c)) (resid .u64 (.ofNat 1)))) = .ofNat (c % 2) := by
    rw [resid_u64 hc, resid_u64 (by decide), and_one, wr_u64 (by omega)]
  have hsh : Nat.shiftRight c (Nat.min 1 (bitsK .u64)) = c / 2 := by
    show c >>> 1 = c / 2
    rw [Nat.shiftRight_eq_div_pow]
  obtain ⟨f, hf, hfo⟩ : ∃ f : Nat, wr .u64 (Int.sub 0 (.ofNat (c % 2))) = .ofNat f ∧ wr .u64 (.ofNat (Nat.xor (resid .u64 (.ofNat (c / 2))) (resid .u64 (wr .u64 (.ofNat (Nat.land (resid .u64 (.ofNat 14514072000185962306)) (resid .u64 (.ofNat f)))))))) = .ofNat (crcBit c) := by
    rcases Nat.mod_two_eq_zero_or_one c with h | h
    · refine ⟨0, by rw [h]; rfl, ?_⟩
      have : wr .u64 (.ofNat (Nat.land (resid .u64 (.ofNat 14514072000185962306)) (resid .u64 (.ofNat 0)))) = .ofNat 0 := rfl
      rw [this, resid_u64 (by omega), resid_u64 (by decide)]
      have e : crcBit c = c / 2 := by
        show (bif Nat.beq (c % 2) 1 then Nat.xor (c / 2) 14514072000185962306 else c / 2) = c / 2
        rw [h]; rfl
      rw [e]
      have : Nat.xor (c / 2) 0 = c / 2 := Nat.xor_zero _
      rw [this, wr_u64 (by omega)]
    · refine ⟨18446744073709551615, by rw [h]; rfl, ?_⟩
      have : wr .u64 (.ofNat (Nat.land (resid .u64 (.ofNat 14514072000185962306)) (resid .u64 (.ofNat 18446744073709551615)))) = .ofNat 14514072000185962306 := by
        rw [resid_u64 (by decide), resid_u64 (by decide), and_all _ (by decide), wr_u64 (by decide)]
      rw [this, resid_u64 (by omega), resid_u64 (by decide)]
      have e : crcBit c = Nat.xor (c / 2) 14514072000185962306 := by
        show (bif Nat.beq (c % 2) 1 then Nat.xor (c / 2) 14514072000185962306 else c / 2) = _
        rw [h]; rfl
      have hlt := lt_two c hc
      rw [e] at hlt ⊢
      rw [wr_u64 hlt]
  have ev3 : ∀ tm : T SV, T.get (Pos.ofNat 3) tm = some (.int .u64 (.ofNat c)) → ∀ loc, evOd loc tm (tt 3) = .int .u64 (.ofNat c) := by
    intro tm ht loc; simp only [evOd, ht, Option.getD_some]
  have g3 : T.get (Pos.ofNat 3) s.tm = some (.int .u64 (.ofNat c)) := h3
  refine ⟨⟨T.put (some (.int .u64 (.ofNat (crcBit c)))) (Pos.ofNat 3) (T.put (some (.int .u64 (.ofNat f))) (Pos.ofNat 6) s.tm), s.dfs, s.pan, s.h⟩, ?_, ⟨rfl, rfl, rfl⟩, ?_, ?_⟩
  · have g36 : T.get (Pos.ofNat 3) (T.put (some (.int .u64 (.ofNat f))) (Pos.ofNat 6) s.tm) = some (.int .u64 (.ofNat c)) := by
      rw [get_other (s := s) (by decide)]; exact h3
    have g66 : T.get (Pos.ofNat 6) (T.put (some (SV.int .u64 (.ofNat f))) (Pos.ofNat 6) s.tm) = some (.int .u64 (.ofNat f)) := by rw [T.get_put, if_pos rfl]
    rw [bitC, exec_seq]
    have r1 : exec X lf (.reg [u none (.mv (tt 3)), u none (.bin .and (.loc 0) (ci .u64 1)), u none (.un .neg (.loc 0)), u (q 6) (.mv (.loc 0))]) s =
        some (.norm, ⟨T.put (some (.int .u64 (.ofNat f))) (Pos.ofNat 6) s.tm, s.dfs, s.pan, s.h⟩) := by
      rw [exec_reg]
      refine Eq.trans (step (s := s) (v := .int .u64 (.ofNat c)) (h' := s.h) (by exact congrArg (fun x => some (OR.val x s.h)) (ev3 s.tm g3 []))) ?_
      refine Eq.trans (step (v := .int .u64 (.ofNat (c % 2))) (h' := s.h) (by exact congrArg (fun x => some (OR.val (SV.int .u64 x) s.h)) e1)) ?_
      refine Eq.trans (step (v := .int .u64 (.ofNat f)) (h' := s.h) (by exact congrArg (fun x => some (OR.val (SV.int .u64 x) s.h)) hf)) ?_
      rfl
    have r2 : exec X lf (.reg [u none (.mv (tt 3)), u none (.bin .shr (.loc 0) (ci .u64 1)), u none (.mv (tt 6)), u none (.bin .and (ci .u64 14514072000185962306) (.loc 0)), u none (.bin .xor (.loc 2) (.loc 0)), u (q 3) (.mv (.loc 0))])
        ⟨T.put (some (.int .u64 (.ofNat f))) (Pos.ofNat 6) s.tm, s.dfs, s.pan, s.h⟩ = some (.norm, ⟨T.put (some (.int .u64 (.ofNat (crcBit c)))) (Pos.ofNat 3) (T.put (some (.int .u64 (.ofNat f))) (Pos.ofNat 6) s.tm), s.dfs, s.pan, s.h⟩) := by
      rw [exec_reg]
      refine Eq.trans (step (v := .int .u64 (.ofNat c)) (h' := s.h) (by exact congrArg (fun x => some (OR.val x s.h)) (ev3 _ g36 []))) ?_
      refine Eq.trans (step (v := .int .u64 (.ofNat (c / 2))) (h' := s.h) (by exact congrArg (fun x => some (OR.val (SV.int .u64 (.ofNat x)) s.h)) hsh)) ?_
      refine Eq.trans (step (v := .int .u64 (.ofNat f)) (h' := s.h) (by exact congrArg (fun x => some (OR.val (x.getD und) s.h)) g66)) ?_
      refine Eq.trans (step (v := .int .u64 (wr .u64 (.ofNat (Nat.land (resid .u64 (.ofNat 14514072000185962306)) (resid .u64 (.ofNat f)))))) (h' := s.h) (by rfl)) ?_
      refine Eq.trans (step (v := .int .u64 (.ofNat (crcBit c))) (h' := s.h) (by exact congrArg (fun x => some (OR.val (SV.int .u64 x) s.h)) hfo)) ?_
      rfl
    rw [r1]
    exact r2
  · show T.get _ (T.put _ _ _) = _
    rw [T.get_put, if_pos rfl]
  · intro n h1 h2
    show T.get _ (T.put _ _ _) = _
    rw [T.get_put, if_neg (fun e => h1 (ofNat_inj e)), T.get_put, if_neg (fun e => h2 (ofNat_inj e))]; rfl

/-- with one temporary turned. -/
def st (s : St) (n : Nat) (v : SV) : St := ⟨T.put (some v) (Pos.ofNat n) s.tm, s.dfs, s.pan, s.h⟩
theorem g_same {s : St} {n : Nat} {v : SV} : g (st s n v) n = some v := by
  show T.get _ (T.put _ _ _) = _
  rw [T.get_put, if_pos rfl]
theorem g_other {s : St} {n m : Nat} {v : SV} (h : m ≠ n) : g (st s n v) m = g s m := get_other h
theorem same_st (s : St) (n : Nat) (v : SV) : Same s (st s n v) := ⟨rfl, rfl, rfl⟩
theorem ev_tt {s : St} {n : Nat} {v : SV} (h : g s n = some v) (loc : List SV) : evOd loc s.tm (tt n) = v := by
  have h' : T.get (Pos.ofNat n) s.tm = some v := h
  simp only [evOd, h', Option.getD_some]

theorem less_run {d a b : Nat} {x y : Od} {s : St} (hx : evOd [] s.tm x = .int .i64 (.ofNat a)) (hy : evOd [] s.tm y = .int .i64 (.ofNat b)) :
    exec X lf (.reg [u (q d) (.bin .lss x y)]) s = some (.norm, st s d (.bool (Nat.blt a b))) := by
  rw [exec_reg]
  refine Eq.trans (step (v := .bool (Nat.blt a b)) (h' := s.h) ?_) rfl
  show oBin .lss x y X (evOd [] s.tm) s.h = _
  unfold oBin
  rw [hx, hy]
  rfl

theorem inc_run {n a : Nat} {s : St} (hx : g s n = some (.int .i64 (.ofNat a))) (ha : a + 1 < 2 ^ 63) :
    exec X lf (.reg [u none (.bin .add (tt n) (ci .i64 1)), u (q n) (.mv (.loc 0))]) s = some (.norm, st s n (.int .i64 (.ofNat (a + 1)))) := by
  rw [exec_reg]
  have e : wr .i64 (Int.add (.ofNat a) (.ofNat 1)) = .ofNat (a + 1) := wr_i64 ha
  refine Eq.trans (step (v := .int .i64 (.ofNat (a + 1))) (h' := s.h) ?_) rfl
  show oBin .add (tt n) (ci .i64 1) X (evOd [] s.tm) s.h = _
  unfold oBin
  rw [ev_tt hx]
  exact congrArg (fun x => some (OR.val (SV.int .i64 x) s.h)) e

theorem cond_true_run {d : Nat} {a b : SC} {s : St} (hd : g s d = some (.bool true)) : exec X lf (.cond (tt d) a b) s = exec X lf a s := by
  show (match evOd [] s.tm (tt d) with
    | .bool true => exec X lf a s
    | .bool false => exec X lf b s
    | _ => none) = _
  rw [ev_tt hd]
theorem cond_false_run {d : Nat} {a b : SC} {s : St} (hd : g s d = some (.bool false)) : exec X lf (.cond (tt d) a b) s = exec X lf b s := by
  show (match evOd [] s.tm (tt d) with
    | .bool true => exec X lf a s
    | .bool false => exec X lf b s
    | _ => none) = _
  rw [ev_tt hd]

theorem block_norm {i : Nat} {b : SC} {s s' : St} (h : exec X lf b s = some (.norm, s')) : exec X lf (.block i b) s = some (.norm, s') := by
  show (match exec X lf b s with
    | some (.exit n, s) => bif Nat.beq n i then some (Ex.norm, s) else some (Ex.exit n, s)
    | e => e) = _
  rw [h]
theorem block_exit {i : Nat} {b : SC} {s s' : St} (h : exec X lf b s = some (.exit i, s')) : exec X lf (.block i b) s = some (.norm, s') := by
  show (match exec X lf b s with
    | some (.exit n, s) => bif Nat.beq n i then some (Ex.norm, s) else some (Ex.exit n, s)
    | e => e) = _
  rw [h]
  show (bif Nat.beq i i then some (Ex.norm, s') else some (.exit i, s')) = _
  rw [show Nat.beq i i = true from Nat.beq_refl i]
  rfl
theorem loop_norm {body : St → Option (Ex × St)} {n : Nat} {s s' : St} (h : body s = some (.norm, s')) : loopN body (n + 1) s = loopN body n s' := by
  show (match body s with
    | some (.norm, s) => loopN body n s
    | e => e) = _
  rw [h]
theorem loop_exit {body : St → Option (Ex × St)} {n i : Nat} {s s' : St} (h : body s = some (.exit i, s')) : loopN body (n + 1) s = some (.exit i, s') := by
  show (match body s with
    | some (.norm, s) => loopN body n s
    | e => e) = _
  rw [h]
theorem seq_run {a b : SC} {s s' : St} (h : exec X lf a s = some (.norm, s')) : exec X lf (.seq a b) s = exec X lf b s' := by
  show (match exec X lf a s with
    | some (.norm, s) => exec X lf b s
    | e => e) = _
  rw [h]
theorem seq_exit {a b : SC} {s s' : St} {i : Nat} (h : exec X lf a s = some (.exit i, s')) : exec X lf (.seq a b) s = some (.exit i, s') := by
  show (match exec X lf a s with
    | some (.norm, s) => exec X lf b s
    | e => e) = _
  rw [h]

theorem bitB_go {s : St} {c j : Nat} (hc : c < 2 ^ 64) (h3 : g s 3 = some (.int .u64 (.ofNat c))) (h17 : g s 17 = some (.int .i64 (.ofNat j))) (hj : j < 8) :
    ∃ s', exec X lf bitB s = some (.norm, s') ∧ Same s s' ∧ g s' 3 = some (.int .u64 (.ofNat (crcBit c))) ∧ g s' 17 = some (.int .i64 (.ofNat (j + 1))) ∧
      ∀ n, n ≠ 3 → n ≠ 6 → n ≠ 17 → n ≠ 18 → g s' n = g s n := by
  have h1 := less_run (X := X) (lf := lf) (d := 18) (x := tt 17) (y := ci .i64 8) (a := j) (b := 8) (s := s) (ev_tt h17 []) rfl
  rw [show Nat.blt j 8 = true from blt_true hj] at h1
  obtain ⟨s2, e2, sm2, g2, o2⟩ := bitC_run (X := X) (lf := lf) (s := st s 18 (.bool true)) (c := c) hc ((g_other (by decide)).trans h3)
  have h172 : g s2 17 = some (.int .i64 (.ofNat j)) := (o2 17 (by decide) (by decide)).trans ((g_other (by decide)).trans h17)
  have h4 := inc_run (X := X) (lf := lf) (n := 17) (a := j) (s := s2) h172 (by omega)
  refine ⟨st s2 17 (.int .i64 (.ofNat (j + 1))), ?_, (same_st _ _ _).trans (sm2.trans (same_st _ _ _)), (g_other (by decide)).trans g2, g_same, ?_⟩
  · exact (seq_run h1).trans ((seq_run (cond_true_run g_same)).trans ((seq_run (block_norm e2)).trans h4))
  · intro n n3 n6 n17 n18
    exact (g_other n17).trans ((o2 n n3 n6).trans (g_other n18))

theorem bitB_end {s : St} (h17 : g s 17 = some (.int .i64 (.ofNat 8))) : exec X lf bitB s = some (.exit 2, st s 18 (.bool false)) := by
  have h1 := less_run (X := X) (lf := lf) (d := 18) (x := tt 17) (y := ci .i64 8) (a := 8) (b := 8) (s := s) (ev_tt h17 []) rfl
  exact (seq_run h1).trans (seq_exit (cond_false_run g_same))

theorem bits_loop : ∀ (k fuel : Nat) (s : St) (c j : Nat), j + k = 8 → k < fuel → c < 2 ^ 64 → g s 3 = some (.int .u64 (.ofNat c)) → g s 17 = some (.int .i64 (.ofNat j)) →
    ∃ s', loopN (exec X lf bitB) fuel s = some (.exit 2, s') ∧ Same s s' ∧ g s' 3 = some (.int .u64 (.ofNat (bits k c))) ∧
      ∀ n, n ≠ 3 → n ≠ 6 → n ≠ 17 → n ≠ 18 → g s' n = g s n
  | 0, fuel + 1, s, c, j, hj, hf, hc, h3, h17 => by
    have : j = 8 := by omega
    subst this
    exact ⟨_, loop_exit (bitB_end h17), same_st _ _ _, (g_other (by decide)).trans h3, fun n _ _ _ n18 => g_other n18⟩
  | k + 1, fuel + 1, s, c, j, hj, hf, hc, h3, h17 => by
    obtain ⟨s1, e1, m1, g1, g17, o1⟩ := bitB_go (X := X) (lf := lf) hc h3 h17 (by omega)
    obtain ⟨s2, e2, m2, g2, o2⟩ := bits_loop k fuel s1 (crcBit c) (j + 1) (by omega) (by omega) (lt_two c hc) g1 g17
    exact ⟨s2, (loop_norm e1).trans e2, m1.trans m2, g2, fun n a b c d => (o2 n a b c d).trans (o1 n a b c d)⟩

theorem byteB_run {s : St} {c i o b8 n cap : Nat} {b : Pos} (hl : 8 < lf) (hc : c < 2 ^ 64) (h3 : g s 3 = some (.int .u64 (.ofNat c))) (h7 : g s 7 = some (.slc b o n cap))
    (h9 : g s 9 = some (.int .i64 (.ofNat i))) (hi : i < n) (hb : b8 < 256) (hcell : s.h.cell b (o + i) = some (.int .u8 (.ofNat b8))) :
    ∃ s', exec X lf byteB s = some (.norm, s') ∧ Same s s' ∧ g s' 3 = some (.int .u64 (.ofNat (bits 8 (Nat.xor c b8)))) ∧
      ∀ n, n ≠ 3 → n ≠ 5 → n ≠ 6 → n ≠ 17 → n ≠ 18 → g s' n = g s n := by
  have hx : Nat.xor c b8 < 2 ^ 64 := Nat.xor_lt_two_pow hc (by omega)
  have r1 : exec X lf (.reg [u none (.iadrS 1 (tt 7) (tt 9)), u none (.load 1 false (.loc 0)), u (q 5) (.mv (.loc 0))]) s = some (.norm, st s 5 (.int .u8 (.ofNat b8))) := by
    rw [exec_reg]
    refine Eq.trans (step (v := .ptr b (o + i)) (h' := s.h) ?_) ?_
    · show (match evOd [] s.tm (tt 7), evOd [] s.tm (tt 9) with
        | .slc b o n _, .int _ (.ofNat i) => bif Nat.blt i n then some (OR.val (.ptr b (Nat.add o (Nat.mul i 1))) s.h) else none
        | _, _ => none) = _
      rw [ev_tt h7, ev_tt h9]
      show (bif Nat.blt i n then some (OR.val (.ptr b (Nat.add o (Nat.mul i 1))) s.h) else none) = _
      rw [show Nat.blt i n = true from blt_true hi, show Nat.mul i 1 = i from Nat.mul_one i]
      rfl
    · refine Eq.trans (step (v := .int .u8 (.ofNat b8)) (h' := s.h) ?_) rfl
      show (match s.h.cell b (o + i) with | some v => some (OR.val v s.h) | none => none) = _
      rw [hcell]
  let s1 := st s 5 (.int .u8 (.ofNat b8))
  have e1 : wr .u64 (.ofNat b8) = .ofNat b8 := wr_u64 (by omega)
  have e2 : wr .u64 (.ofNat (Nat.xor (resid .u64 (.ofNat c)) (resid .u64 (.ofNat b8)))) = .ofNat (Nat.xor c b8) := by
    rw [resid_u64 hc, resid_u64 (by omega), wr_u64 hx]
  have r2 : exec X lf (.reg [u none (.mv (tt 3)), u none (.mv (tt 5)), u none (.toInt .u64 (.loc 0)), u none (.bin .xor (.loc 2) (.loc 0)), u (q 3) (.mv (.loc 0))]) s1 = some (.norm, st s1 3 (.int .u64 (.ofNat (Nat.xor c b8)))) := by
    rw [exec_reg]
    refine Eq.trans (step (v := .int .u64 (.ofNat c)) (h' := s1.h) (by exact congrArg (fun x => some (OR.val x s1.h)) (ev_tt (s := s1) (n := 3) ((g_other (by decide)).trans h3) []))) ?_
    refine Eq.trans (step (v := .int .u8 (.ofNat b8)) (h' := s1.h) (by exact congrArg (fun x => some (OR.val x s1.h)) (ev_tt (s := s1) (n := 5) g_same _))) ?_
    refine Eq.trans (step (v := .int .u64 (.ofNat b8)) (h' := s1.h) (by exact congrArg (fun x => some (OR.val (SV.int .u64 x) s1.h)) e1)) ?_
    refine Eq.trans (step (v := .int .u64 (.ofNat (Nat.xor c b8))) (h' := s1.h) (by exact congrArg (fun x => some (OR.val (SV.int .u64 x) s1.h)) e2)) ?_
    rfl
  let s2 := st s1 3 (.int .u64 (.ofNat (Nat.xor c b8)))
  have r3 : exec X lf (.reg [u (q 17) (.mv (ci .i64 0))]) s2 = some (.norm, st s2 17 (.int .i64 (.ofNat 0))) := rfl
  obtain ⟨s4, e4, m4, g4, o4⟩ := bits_loop (X := X) (lf := lf) 8 lf (st s2 17 (.int .i64 (.ofNat 0))) (Nat.xor c b8) 0 rfl hl hx ((g_other (by decide)).trans g_same) g_same
  refine ⟨s4, ?_, (same_st _ _ _).trans ((same_st _ _ _).trans ((same_st _ _ _).trans m4)), g4, ?_⟩
  · exact (seq_run r1).trans ((seq_run r2).trans ((seq_run r3).trans (block_exit e4)))
  · intro n n3 n5 n6 n17 n18
    exact (o4 n n3 n6 n17 n18).trans ((g_other n17).trans ((g_other n3).trans (g_other n5)))

theorem loopB_end {s : St} {n : Nat} (h9 : g s 9 = some (.int .i64 (.ofNat n))) (h8 : g s 8 = some (.int .i64 (.ofNat n))) : exec X lf loopB s = some (.exit 0, st s 10 (.bool false)) := by
  have h1 := less_run (X := X) (lf := lf) (d := 10) (x := tt 9) (y := tt 8) (a := n) (b := n) (s := s) (ev_tt h9 []) (ev_tt h8 [])
  rw [show Nat.blt n n = false from blt_false (Nat.lt_irrefl n)] at h1
  exact (seq_run h1).trans (seq_exit (cond_false_run g_same))

theorem loopB_go {s : St} {c i o b8 n cap : Nat} {b : Pos} (hl : 8 < lf) (hc : c < 2 ^ 64) (h3 : g s 3 = some (.int .u64 (.ofNat c))) (h7 : g s 7 = some (.slc b o n cap))
    (h8 : g s 8 = some (.int .i64 (.ofNat n))) (h9 : g s 9 = some (.int .i64 (.ofNat i))) (hi : i < n) (hn : n < 2 ^ 62) (hb : b8 < 256) (hcell : s.h.cell b (o + i) = some (.int .u8 (.ofNat b8))) :
    ∃ s', exec X lf loopB s = some (.norm, s') ∧ Same s s' ∧ g s' 3 = some (.int .u64 (.ofNat (bits 8 (Nat.xor c b8)))) ∧ g s' 7 = some (.slc b o n cap) ∧
      g s' 8 = some (.int .i64 (.ofNat n)) ∧ g s' 9 = some (.int .i64 (.ofNat (i + 1))) := by
  have h1 := less_run (X := X) (lf := lf) (d := 10) (x := tt 9) (y := tt 8) (a := i) (b := n) (s := s) (ev_tt h9 []) (ev_tt h8 [])
  rw [show Nat.blt i n = true from blt_true hi] at h1
  obtain ⟨s2, e2, m2, g2, o2⟩ := byteB_run (X := X) (lf := lf) (s := st s 10 (.bool true)) (c := c) (i := i) (o := o) (b8 := b8) (n := n) (cap := cap) (b := b) hl hc
    ((g_other (by decide)).trans h3) ((g_other (by decide)).trans h7) ((g_other (by decide)).trans h9) hi hb hcell
  have h9' : g s2 9 = some (.int .i64 (.ofNat i)) := (o2 9 (by decide) (by decide) (by decide) (by decide) (by decide)).trans ((g_other (by decide)).trans h9)
  have h4 := inc_run (X := X) (lf := lf) (n := 9) (a := i) (s := s2) h9' (by omega)
  refine ⟨st s2 9 (.int .i64 (.ofNat (i + 1))), ?_, (same_st _ _ _).trans (m2.trans (same_st _ _ _)), (g_other (by decide)).trans g2, ?_, ?_, g_same⟩
  · exact (seq_run h1).trans ((seq_run (cond_true_run g_same)).trans ((seq_run (block_norm e2)).trans h4))
  · exact (g_other (by decide)).trans ((o2 7 (by decide) (by decide) (by decide) (by decide) (by decide)).trans ((g_other (by decide)).trans h7))
  · exact (g_other (by decide)).trans ((o2 8 (by decide) (by decide) (by decide) (by decide) (by decide)).trans ((g_other (by decide)).trans h8))

theorem loop_run {b : Pos} {o n cap v : Nat} (hl : 8 < lf) (hn : n < 2 ^ 62) : ∀ (k fuel i : Nat) (s : St) (c : Nat), i + k = n → k < fuel → c < 2 ^ 64 →
    (∀ j, j < n → s.h.cell b (o + j) = some (.int .u8 (.ofNat (v / 256 ^ j % 256)))) →
    g s 3 = some (.int .u64 (.ofNat c)) → g s 7 = some (.slc b o n cap) → g s 8 = some (.int .i64 (.ofNat n)) → g s 9 = some (.int .i64 (.ofNat i)) →
    ∃ s', loopN (exec X lf loopB) fuel s = some (.exit 0, s') ∧ Same s s' ∧ g s' 3 = some (.int .u64 (.ofNat (crcN k (v / 256 ^ i) c))) ∧ crcN k (v / 256 ^ i) c < 2 ^ 64
  | 0, fuel + 1, i, s, c, hi, hf, hc, hcell, h3, h7, h8, h9 => by
    have : i = n := by omega
    subst this
    exact ⟨_, loop_exit (loopB_end h9 h8), same_st _ _ _, (g_other (by decide)).trans h3, hc⟩
  | k + 1, fuel + 1, i, s, c, hi, hf, hc, hcell, h3, h7, h8, h9 => by
    obtain ⟨s1, e1, m1, g3, g7, g8, g9⟩ := loopB_go (X := X) (lf := lf) hl hc h3 h7 h8 h9 (by omega) hn (Nat.mod_lt _ (by decide)) (hcell i (by omega))
    have hx : Nat.xor c (v / 256 ^ i % 256) < 2 ^ 64 := Nat.xor_lt_two_pow hc (by have := Nat.mod_lt (v / 256 ^ i) (show 0 < 256 by decide); omega)
    obtain ⟨s2, e2, m2, g2, l2⟩ := loop_run hl hn k fuel (i + 1) s1 _ (by omega) (by omega) (bits_lt 8 _ hx) (by rw [m1.h]; exact hcell) g3 g7 g8 g9
    have e : crcN (k + 1) (v / 256 ^ i) c = crcN k (v / 256 ^ (i + 1)) (bits 8 (Nat.xor c (v / 256 ^ i % 256))) := by
      show crcN k (v / 256 ^ i / 256) _ = _
      rw [Nat.div_div_eq_div_mul, ← Nat.pow_succ]
      rfl
    rw [e]
    exact ⟨s2, (loop_norm e1).trans e2, m1.trans m2, g2, l2⟩

end Crc
end Go.Sh

/-
  crc.Sum: a whole call, and a summary of it.
-/
namespace Go.Sh
set_option linter.unusedVariables false
namespace Crc

theorem drop_nth : ∀ (l : SV) (o : Nat) {r : SV}, l.drop o = some r → ∀ i, r.nth i = l.nth (o + i)
  | .cons v l, o, r, h, i => by
    simp only [SV.drop, cond_eq_ite] at h
    split at h
    · rename_i h0
      cases h
      rw [Nat.eq_of_beq_eq_true h0, Nat.zero_add]
    · rename_i h0
      have ho : o ≠ 0 := fun e => h0 (by rw [e]; rfl)
      rw [drop_nth l _ h i]
      have : Nat.beq (o + i) 0 = false := beq_false (by omega)
      simp only [SV.nth, this, cond_false]
      congr 1
      show o - 1 + i = o + i - 1
      omega
  | .byt m v l, o, r, h, i => by
    simp only [SV.drop, cond_eq_ite] at h
    split at h
    · rename_i hm
      have hm : o < m := by rwa [Nat.blt_eq] at hm
      split at h
      · rename_i h0
        cases h
        rw [Nat.eq_of_beq_eq_true h0, Nat.zero_add]
      · cases h
        simp only [SV.nth]
        by_cases hi : i < m - o
        · rw [show Nat.blt i (Nat.sub m o) = true from blt_true hi, show Nat.blt (o + i) m = true from blt_true (by omega), byteOf_high]
          rfl
        · rw [show Nat.blt i (Nat.sub m o) = false from blt_false hi, show Nat.blt (o + i) m = false from blt_false (by omega)]
          show l.nth (i - (m - o)) = l.nth (o + i - m)
          congr 1
          omega
    · rename_i hm
      have hm : ¬ o < m := by rwa [Nat.blt_eq] at hm
      rw [drop_nth l _ h i]
      simp only [SV.nth]
      rw [show Nat.blt (o + i) m = false from blt_false (by omega)]
      show l.nth (o - m + i) = l.nth (o + i - m)
      congr 1
      omega
  | .nl, o, r, h, i => by
    simp only [SV.drop, cond_eq_ite] at h
    split at h
    · cases h; rfl
    · cases h

theorem take_nth : ∀ (l : SV) (n : Nat) {r : SV}, l.take n = some r → ∀ i, i < n → r.nth i = l.nth i
  | .cons v l, n, r, h, i, hi => by
    simp only [SV.take, cond_eq_ite] at h
    split at h
    · rename_i h0
      have := Nat.eq_of_beq_eq_true h0
      omega
    · split at h
      · rename_i r' e
        cases h
        simp only [SV.nth, cond_eq_ite]
        split
        · rfl
        · rename_i h1
          have : i ≠ 0 := fun e => h1 (by rw [e]; rfl)
          exact take_nth l _ e _ (by show i - 1 < n - 1; omega)
      · cases h
  | .byt m v l, n, r, h, i, hi => by
    simp only [SV.take, cond_eq_ite] at h
    split at h
    · rename_i h0
      have := Nat.eq_of_beq_eq_true h0
      omega
    · split at h
      · rename_i hm
        have hm : n ≤ m := by rwa [Nat.ble_eq] at hm
        cases h
        simp only [SV.nth]
        rw [show Nat.blt i n = true from blt_true hi, show Nat.blt i m = true from blt_true (by omega), byteOf_low _ _ _ hi]
        rfl
      · split at h
        · rename_i r' e
          cases h
          simp only [SV.nth, cond_eq_ite]
          split
          · rfl
          · rename_i h1
            have h1 : ¬ i < m := by rwa [Nat.blt_eq] at h1
            exact take_nth l _ e _ (by show i - m < n - m; omega)
        · cases h
  | .nl, n, r, h, i, hi => by
    simp only [SV.take, cond_eq_ite] at h
    split at h
    · rename_i h0
      have := Nat.eq_of_beq_eq_true h0
      omega
    · cases h

theorem byteOf_pow (v j : Nat) : byteOf v j = v / 256 ^ j % 256 := by
  rw [byteOf_eq, Nat.pow_mul]

def wfB : SV → Bool
  | .nl => true
  | .cons _ l => wfB l
  | .byt n v l => Nat.blt v (Nat.pow 2 (Nat.mul 8 n)) && wfB l
  | _ => false

theorem toBytes_nth : ∀ (l : SV) {n v : Nat}, l.toBytes = some (n, v) → wfB l = true → v < 2 ^ (8 * n) ∧ ∀ i, i < n → l.nth i = some (.int .u8 (.ofNat (byteOf v i)))
  | .nl, n, v, h, hw => by
    simp only [SV.toBytes, Option.some.injEq, Prod.mk.injEq] at h
    obtain ⟨rfl, rfl⟩ := h
    exact ⟨by decide, fun i hi => absurd hi (Nat.not_lt_zero _)⟩
  | .cons x l, n, v, h, hw => by
    simp only [SV.toBytes] at h
    split at h
    · rename_i c m y hc hm
      simp only [Option.some.injEq, Prod.mk.injEq] at h
      obtain ⟨rfl, rfl⟩ := h
      obtain ⟨rfl, hc'⟩ := byteSV_spec hc
      obtain ⟨hy, hn⟩ := toBytes_nth l hm hw
      have hc2 : c < 2 ^ (8 * 1) := by simpa using hc'
      have hlt := joinB_lt hc2 hy
      refine ⟨by rw [Nat.add_comm] at hlt; exact hlt, ?_⟩
      intro i hi
      cases i with
      | zero =>
        rw [byteOf_join_lo _ _ _ _ hc2 (by decide)]
        have : byteOf c 0 = c := by rw [byteOf_eq]; simp; omega
        rw [this]
        rfl
      | succ i =>
        rw [show i + 1 = 1 + i from Nat.add_comm _ _, byteOf_join_hi _ _ _ _ hc2]
        have := hn i (by change i + 1 < m + 1 at hi; omega)
        rw [← this]
        simp only [SV.nth]
        rw [show Nat.beq (1 + i) 0 = false from beq_false (by omega)]
        show l.nth (1 + i - 1) = _
        congr 1
        omega
    · cases h
  | .byt m x l, n, v, h, hw => by
    have hw2 : Nat.blt x (2 ^ (8 * m)) = true ∧ wfB l = true := by
      have : (Nat.blt x (2 ^ (8 * m)) && wfB l) = true := hw
      rwa [Bool.and_eq_true] at this
    obtain ⟨hx, hwl⟩ := hw2
    have hx : x < 2 ^ (8 * m) := by rwa [Nat.blt_eq] at hx
    have lo : ∀ i, i < m → (SV.byt m x l).nth i = some (.int .u8 (.ofNat (byteOf x i))) := by
      intro i hi
      simp only [SV.nth]
      rw [show Nat.blt i m = true from blt_true hi]
      rfl
    unfold SV.toBytes at h
    split at h
    · simp only [Option.some.injEq, Prod.mk.injEq] at h
      obtain ⟨rfl, rfl⟩ := h
      exact ⟨hx, lo⟩
    · split at h
      · rename_i k y hk
        simp only [Option.some.injEq, Prod.mk.injEq] at h
        obtain ⟨rfl, rfl⟩ := h
        obtain ⟨hy, hn⟩ := toBytes_nth l hk hwl
        refine ⟨joinB_lt hx hy, ?_⟩
        intro i hi
        by_cases him : i < m
        · rw [byteOf_join_lo _ _ _ _ hx him]
          exact lo i him
        · obtain ⟨j, rfl⟩ : ∃ j, i = m + j := ⟨i - m, by omega⟩
          rw [byteOf_join_hi _ _ _ _ hx, ← hn j (by change m + j < m + k at hi; omega)]
          simp only [SV.nth]
          rw [show Nat.blt (m + j) m = false from blt_false (by omega)]
          show l.nth (m + j - m) = _
          congr 1
          omega
      · cases h

theorem cells_of {h : H} {b : Pos} {o n v : Nat} {l : SV} (hr : h.range b o n = some l) (hl : l.toBytes = some (n, v)) (hw : wfB l = true) (j : Nat) (hj : j < n) :
    h.cell b (o + j) = some (.int .u8 (.ofNat (v / 256 ^ j % 256))) := by
  have key : l.nth j = some (.int .u8 (.ofNat (v / 256 ^ j % 256))) := by
    rw [(toBytes_nth l hl hw).2 j hj, byteOf_pow]
  unfold H.range at hr
  unfold H.cell
  split at hr
  · rename_i l' sz g sh fam e
    show l'.nth (o + j) = _
    simp only [cond_eq_ite] at hr
    split at hr
    · rename_i h0
      rw [Bool.and_eq_true] at h0
      have := Nat.eq_of_beq_eq_true h0.1
      subst this
      rw [Option.some.inj hr, Nat.zero_add]
      exact key
    · split at hr
      · rename_i r hd
        rw [← drop_nth l' o hd j, ← take_nth r n hr j hj]
        exact key
      · cases hr
  · cases hr

theorem call_crc {F : FuncId → Option SFunc} {M : TypeId → String → Option (FuncId × Option (Nat × Bool))} {m : Nat} {f : FuncId} {h : H} {b : Pos} {o n cap v : Nat} {l : SV}
    (hF : F f = some code) (hn : n < 2 ^ 62) (hr : h.range b o n = some l) (hlb : l.toBytes = some (n, v)) (hlw : wfB l = true) :
    (ctx F M noS (n + 9) (m + 1)).call f [.slc b o n cap] h = some (.ret (.int .u64 (.ofNat (crcOf n v))) h) := by
  let s0 : St := ⟨setT .nil (q 0) (.slc b o n cap), [], .non, h⟩
  rw [call_body (t := s0.tm) rfl hF rfl]
  let s1 := st s0 2 (.int .u64 (.ofNat 0))
  let s2 := st s1 3 (.int .u64 (.ofNat 18446744073709551615))
  let s3 := st (st (st s2 7 (.slc b o n cap)) 8 (.int .i64 (.ofNat n))) 9 (.int .i64 (.ofNat 0))
  let X := ctx F M noS (n + 9) m
  have g0 : g s2 0 = some (.slc b o n cap) := (g_other (by decide)).trans ((g_other (by decide)).trans (by show T.get _ (T.put _ _ _) = _; rw [T.get_put, if_pos rfl]))
  have r3 : exec X (n + 9) (.reg [u (q 7) (.mv (tt 0)), u (q 8) (.len (.loc 0)), u (q 9) (.mv (ci .i64 0))]) s2 = some (.norm, s3) := by
    rw [exec_reg]
    refine Eq.trans (step (v := .slc b o n cap) (h' := s2.h) (by exact congrArg (fun x => some (OR.val x s2.h)) (ev_tt g0 []))) ?_
    rfl
  obtain ⟨s4, e4, m4, g4, l4⟩ := loop_run (X := X) (lf := n + 9) (b := b) (o := o) (n := n) (cap := cap) (v := v) (by omega) hn n (n + 9) 0 s3 18446744073709551615 (by omega) (by omega) (by decide)
    (fun j hj => cells_of hr hlb hlw j hj) ((g_other (by decide)).trans ((g_other (by decide)).trans ((g_other (by decide)).trans g_same)))
    ((g_other (by decide)).trans ((g_other (by decide)).trans g_same)) ((g_other (by decide)).trans g_same) g_same
  rw [Nat.pow_zero, Nat.div_one] at g4 l4
  have e5 : wr .u64 (.ofNat (Nat.xor 18446744073709551615 (resid .u64 (.ofNat (crcN n v 18446744073709551615))))) = .ofNat (crcOf n v) := by
    rw [resid_u64 l4]
    exact wr_u64 (Nat.xor_lt_two_pow (by decide) l4)
  have r5 : exec X (n + 9) (.reg [u none (.mv (tt 3)), u none (.un .xor (.loc 0)), u (q 2) (.mv (.loc 0))]) s4 = some (.norm, st s4 2 (.int .u64 (.ofNat (crcOf n v)))) := by
    rw [exec_reg]
    refine Eq.trans (step (v := .int .u64 (.ofNat (crcN n v 18446744073709551615))) (h' := s4.h) (by exact congrArg (fun x => some (OR.val x s4.h)) (ev_tt g4 []))) ?_
    refine Eq.trans (step (v := .int .u64 (.ofNat (crcOf n v))) (h' := s4.h) (by exact congrArg (fun x => some (OR.val (SV.int .u64 x) s4.h)) e5)) ?_
    rfl
  have hb : exec X (n + 9) code.body s0 = some (.ret, st s4 2 (.int .u64 (.ofNat (crcOf n v)))) := by
    refine (seq_run (s' := s1) rfl).trans ((seq_run (s' := s2) rfl).trans ((seq_run (s' := s4) ?_).trans ((seq_run r5).trans rfl)))
    exact (seq_run r3).trans (block_exit e4)
  show finS F X (n + 9) code.res (exec X (n + 9) code.body s0) = _
  rw [hb]
  have d4 : s4.dfs = [] := m4.dfs
  have p4 : s4.pan = .non := m4.pan
  have h4 : s4.h = h := m4.h
  have g6 : evOd [] (st s4 2 (.int .u64 (.ofNat (crcOf n v)))).tm (tt 2) = .int .u64 (.ofNat (crcOf n v)) := ev_tt g_same []
  have d5 : (st s4 2 (.int .u64 (.ofNat (crcOf n v)))).dfs = [] := m4.dfs
  have h5 : (st s4 2 (.int .u64 (.ofNat (crcOf n v)))).h = h := m4.h
  revert d5 g6 h5
  generalize st s4 2 (.int .u64 (.ofNat (crcOf n v))) = s5
  intro g6 d5 h5
  show leave (dcall F X (n + 9)) [.tmp (tt 2)] s5.dfs .non s5 = _
  rw [d5]
  show some (CR.ret (tupled [evOd [] s5.tm (tt 2)]) s5.h) = _
  rw [g6, h5]
  rfl

/-- the sum of a row of bytes. -/
def sumCrc (args : List SV) (h : H) : Option CR :=
  match args with
  | [.slc b o n c] => match h.range b o n with
    | some l => match l.toBytes with
      | some (m, v) => bif (Nat.beq m n && Nat.blt n 1000000) && wfB l then some (.ret (.int .u64 (.ofNat (crcOf n v))) h) else none
      | none => none
    | none => none
  | _ => none

/-- what it says of a call of `f` holds. -/
def SumAt (P : Program) (f : FuncId) (sm : List SV → H → Option CR) : Prop :=
  ∀ {ρ : Rho} {h : H} {w : World} {args : List SV} {r : CR} {us : Array Value}, sm args h = some r → HR P ρ h w → VRs ρ args us.toList →
    (callFunc f us).run P w = .ok (.enter f us) w ∧ Calls P f us w (EndR P ρ h w r)

theorem sumCrc_at {P : Program} {F : FuncId → Option SFunc} {M : TypeId → String → Option (FuncId × Option (Nat × Bool))} {f : FuncId}
    (hS : ∀ lf n, SoundX P (ctx F M noS lf n)) (hF : F f = some code) : SumAt P f sumCrc := by
  intro ρ h w args r us hr hh hu
  unfold sumCrc at hr
  split at hr
  · rename_i b o n c
    split at hr
    · rename_i l e
      split at hr
      · rename_i m v hl
        simp only [cond_eq_ite] at hr
        split at hr
        · rename_i hc
          cases hr
          simp only [Bool.and_eq_true] at hc
          obtain ⟨⟨hm, hn⟩, hw⟩ := hc
          have hm := Nat.eq_of_beq_eq_true hm
          subst hm
          have hn : m < 1000000 := by rwa [Nat.blt_eq] at hn
          exact (hS (m + 9) 1).call (call_crc hF (by omega) e hl hw) hh hu
        · cases hr
      · cases hr
    · cases hr
  · cases hr

/-- one summary more. -/
noncomputable def addS (S : FuncId → Option (List SV → H → Option CR)) (f : FuncId) (sm : List SV → H → Option CR) (x : FuncId) : Option (List SV → H → Option CR) :=
  Bool.rec (S x) (some sm) (Nat.beq x f)

theorem addS_ok {P : Program} {S : FuncId → Option (List SV → H → Option CR)} (hS : SumOK P S) {f : FuncId} {sm : List SV → H → Option CR} (h1 : SumAt P f sm) : SumOK P (addS S f sm) := by
  intro ρ h w x s args r us hf hr hh hu
  by_cases hx : x = f
  · subst hx
    have e : addS S x sm x = some sm := by unfold addS; rw [show Nat.beq x x = true from Nat.beq_refl x]
    rw [e] at hf
    cases hf
    exact h1 hr hh hu
  · have e : addS S f sm x = S x := by unfold addS; rw [beq_false hx]
    rw [e] at hf
    exact hS hf hr hh hu

end Crc
end Go.Sh
