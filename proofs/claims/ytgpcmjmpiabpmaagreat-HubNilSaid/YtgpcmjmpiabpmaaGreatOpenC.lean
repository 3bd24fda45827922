/-
  The summary of log.Open on pages of zeros.
-/
import Derived.Test.YtgpcmjmpiabpmaaGreatOpenA
import Derived.Test.YtgpcmjmpiabpmaaGreatOpenB
namespace Go.Proofs.YtgpcmjmpiabpmaaGreat
open Go Go.Sh
set_option linter.unusedVariables false
set_option maxRecDepth 100000

def sumOpen (args : List SV) (h : H) : Option CR :=
  match args with
  | [.ptr pd 0, .int .i64 (.ofNat first), .int .i64 (.ofNat n)] =>
    match h.get pd with
    | some (.row (.cons (.slc pl 0 1000 1000) l) 4 0 false fam) =>
      bif (Nat.beq n 500 && (Nat.beq first 0 || Nat.beq first 500)) && ((SV.cons (.slc pl 0 1000 1000) l).same (zdisk pl) && (hasRow h pl zlies 512000 0 && !(pl.beq pd))) then
        some (.ret (.tup (.cons (.ptr h.next 0) (.cons (.int .i64 0) .nl))) (h.newRow (zlog pd first) 8 0)) else none
    | _ => none
  | _ => none
def S2 (f : FuncId) : Option (List SV → H → Option CR) := bif Nat.beq f 50 then some sumOpen else none

theorem S2_ok : SumOK Tryz.prog S2 := by
  intro ρ h w f sm args r us hf hr hh hu
  unfold S2 at hf
  by_cases h50 : f = 50
  · subst h50
    rw [beq_true rfl] at hf
    cases hf
    unfold sumOpen at hr
    split at hr
    · rename_i pd first n
      split at hr
      · rename_i pl l fam hat
        simp only [cond_eq_ite] at hr
        split at hr
        · rename_i hc
          cases hr
          simp only [Bool.and_eq_true, Bool.or_eq_true, Bool.not_eq_true'] at hc
          obtain ⟨⟨hn, hfirst⟩, hsame, hrow, hne⟩ := hc
          have hn := Nat.eq_of_beq_eq_true hn
          subst hn
          have hsame := SV.same_eq _ _ hsame
          obtain ⟨faml, hatl⟩ := hasRow_spec hrow
          have hne : pl ≠ pd := fun e => by rw [Pos.beq_iff.2 e] at hne; cases hne
          have hat : h.at_ pd = some (.row (renS (pi2 pl pd) (zdisk .h)) 4 0 false fam) := by
            have : h.at_ pd = some (.row (SV.cons (.slc pl 0 1000 1000) l) 4 0 false fam) := hat
            rw [this, hsame]; rfl
          rcases hfirst with ho | ho
          · have ho := Nat.eq_of_beq_eq_true ho
            subst ho
            exact sum_open (b1 := pl) (b2 := pd) X1_sound hh open0 hatl hat hne rfl rfl rfl rfl hu
          · have ho := Nat.eq_of_beq_eq_true ho
            subst ho
            exact sum_open (b1 := pl) (b2 := pd) X1_sound hh open500 hatl hat hne rfl rfl rfl rfl hu
        · cases hr
      · cases hr
    · cases hr
  · rw [beq_false h50] at hf; cases hf
end Go.Proofs.YtgpcmjmpiabpmaaGreat
