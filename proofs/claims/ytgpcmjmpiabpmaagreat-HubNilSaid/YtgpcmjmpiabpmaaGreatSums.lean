/-
  Summaries: what log.number, log.said and log.Open answer on pages of zeros.
-/
import Derived.Test.YtgpcmjmpiabpmaaGreatTabOk
import Derived.Test.YtgpcmjmpiabpmaaGreatEc
namespace Go.Proofs.YtgpcmjmpiabpmaaGreat
open Go Go.Sh
set_option linter.unusedVariables false
set_option maxRecDepth 1000000

theorem mixed : Tryz.prog.follows .mixedOrders = true := by kernel_rfl
theorem sound {S : FuncId → Option (List SV → H → Option CR)} (hS : SumOK Tryz.prog S) (lf n : Nat) : SoundX Tryz.prog (ctx Tab.tab.find (mfind Tab.ml) S lf n) :=
  run_sound mixed Tab.tabOk Tab.mlOk hS lf n

def zpage : SV := .byt 512 0 .nl
noncomputable def X0 : Ctx := K.ctx Tab.tab.find (mfind Tab.ml) noS 5000 10
theorem X0_sound : SoundX Tryz.prog X0 := by
  unfold X0; rw [K.ctx_eq]; exact sound (noS_ok _) _ _

theorem num0 (c : Nat) : okNum zpage 512 0 (.int .u64 0) (X0.call 95 [.slc .h 0 8 c] (one zpage 512 0)) = true := by kernel_rfl
theorem num504 (c : Nat) : okNum zpage 512 0 (.int .u64 0) (X0.call 95 [.slc .h 504 8 c] (one zpage 512 0)) = true := by kernel_rfl
def noLeaf : SV := .tup (.cons (.agg (.cons (.int .u64 0) (.cons (.int .i64 0) (.cons (.int .i64 0) (.cons .nils .nl))))) (.cons (.bool false) .nl))
theorem said0 : okNum zpage 512 0 noLeaf (X0.call 96 [.slc .h 0 512 512] (one zpage 512 0)) = true := by kernel_rfl

/-- on a page of zeros. -/
def sumNumber (args : List SV) (h : H) : Option CR :=
  match args with
  | [.slc b o n c] => bif (Nat.beq n 8 && (Nat.beq o 0 || Nat.beq o 504)) && hasRow h b zpage 512 0 then some (.ret (.int .u64 0) h) else none
  | _ => none
def sumSaid (args : List SV) (h : H) : Option CR :=
  match args with
  | [.slc b o n c] => bif (Nat.beq n 512 && (Nat.beq o 0 && Nat.beq c 512)) && hasRow h b zpage 512 0 then some (.ret noLeaf h) else none
  | _ => none
noncomputable def S1 (f : FuncId) : Option (List SV → H → Option CR) := Bool.rec (Bool.rec none (some sumSaid) (Nat.beq f 96)) (some sumNumber) (Nat.beq f 95)

theorem slc_of {ρ : Rho} {b : Pos} {o n c : Nat} {us : List Value} (hu : VRs ρ [.slc b o n c] us) : VRs ρ ([SV.slc .h o n c].map (renS (fun _ => b))) us := hu

theorem S1_ok : SumOK Tryz.prog S1 := by
  intro ρ h w f sm args r us hf hr hh hu
  by_cases h95 : f = 95
  · subst h95
    have : S1 95 = some sumNumber := rfl
    rw [this] at hf; cases hf
    unfold sumNumber at hr
    split at hr
    · rename_i b o n c
      simp only [cond_eq_ite] at hr
      split at hr
      · rename_i hc
        cases hr
        simp only [Bool.and_eq_true, Bool.or_eq_true] at hc
        obtain ⟨⟨hn, ho⟩, hrow⟩ := hc
        have hn := Nat.eq_of_beq_eq_true hn
        subst hn
        obtain ⟨fam, hat⟩ := hasRow_spec hrow
        rcases ho with ho | ho
        · have ho := Nat.eq_of_beq_eq_true ho
          subst ho
          exact sum_num X0_sound hh (num0 c) hat rfl rfl rfl rfl (slc_of hu)
        · have ho := Nat.eq_of_beq_eq_true ho
          subst ho
          exact sum_num X0_sound hh (num504 c) hat rfl rfl rfl rfl (slc_of hu)
      · cases hr
    · cases hr
  · by_cases h96 : f = 96
    · subst h96
      have : S1 96 = some sumSaid := rfl
      rw [this] at hf; cases hf
      unfold sumSaid at hr
      split at hr
      · rename_i b o n c
        simp only [cond_eq_ite] at hr
        split at hr
        · rename_i hc
          cases hr
          simp only [Bool.and_eq_true] at hc
          obtain ⟨⟨hn, ho, hc⟩, hrow⟩ := hc
          have hn := Nat.eq_of_beq_eq_true hn
          have ho := Nat.eq_of_beq_eq_true ho
          have hc := Nat.eq_of_beq_eq_true hc
          subst hn ho hc
          obtain ⟨fam, hat⟩ := hasRow_spec hrow
          exact sum_num X0_sound hh said0 hat rfl rfl rfl rfl (slc_of hu)
        · cases hr
      · cases hr
    · have : S1 f = none := by
        show K.bb (Nat.beq f 95) (K.bb (Nat.beq f 96) none (some sumSaid)) (some sumNumber) = none
        rw [beq_false h95, beq_false h96]
      rw [this] at hf; cases hf

/-! log.Open on a disk of 1,000 pages of zeros. -/
noncomputable def X1 : Ctx := K.ctx Tab.tab.find (mfind Tab.ml) S1 5000 10
theorem X1_sound : SoundX Tryz.prog X1 := by
  unfold X1; rw [K.ctx_eq]; exact sound S1_ok _ _
def zlies : SV := .byt 512000 0 .nl
def zdisk (b : Pos) : SV := .cons (.slc b 0 1000 1000) (.cons .nils (.cons (.int .i64 (.negSucc 0)) (.cons (.bool false) .nl)))
def zlog (b : Pos) (first : Nat) : SV := .cons (.ptr b 0) (.cons (.int .i64 (.ofNat first)) (.cons (.int .i64 (.ofNat 500)) (.cons (.int .u64 (.ofNat 0)) (.cons (.bool false) (.cons (.int .i64 (.ofNat 1)) (.cons .nils (.cons (.bool false) .nl)))))))
end Go.Proofs.YtgpcmjmpiabpmaaGreat
