/-
  outriderlaw25.HubNil: the run, for whatever is heard from whomever.
-/
import Derived.Test.YtgpcmjmpiabpmaaGreatOpenC
import Derived.Test.YtgpcmjmpiabpmaaGreatEc
namespace Go.Proofs.YtgpcmjmpiabpmaaGreat
open Go Go.Sh
set_option linter.unusedVariables false
set_option maxRecDepth 1000000
theorem code247 : Tab.tab.find 247 = some Crc.code := rfl
noncomputable def S3 : FuncId → Option (List SV → H → Option CR) := Crc.addS S2 247 Crc.sumCrc
theorem S3_ok : SumOK Tryz.prog S3 := Crc.addS_ok S2_ok (Crc.sumCrc_at (M := mfind Tab.ml) (fun lf n => sound (noS_ok _) lf n) code247)
noncomputable def XK (k : Nat) : Ctx := K.ctx Tab.tab.find (mfind Tab.ml) S3 5000 k
noncomputable def X (k : Nat) : Ctx := ctx Tab.tab.find (mfind Tab.ml) S3 5000 k
def h0 : H := { next := .h, t := .nil, fams := .nil }
def outS (r : Option (Ex × St)) : St := match r with | some (_, s) => s | none => ⟨.nil, [], .non, h0⟩
def args (g m : Int) (n : Nat) : List SV := [.agg (.cons (.int .i64 g) (.cons (.int .i64 m) .nl)), .tslc n]
def tm0 (g m : Int) (n : Nat) : T SV := (argsT Tab.s4.ps (args g m n) .nil).getD .nil
def c1 : SC → SC | .seq a _ => a | c => c
def c2 : SC → SC | .seq _ b => b | c => c
def pA : SC := c1 Tab.s4.body
def pR : SC := c2 (c2 Tab.s4.body)
def pB : SC := c1 (c1 (c2 Tab.s4.body))
def pC : SC := c2 (c1 (c2 Tab.s4.body))
noncomputable def stA (g m : Int) (n : Nat) : St := outS (K.exec (XK 60) 5000 pA ⟨tm0 g m n, [], .non, h0⟩)
noncomputable def stB (g m : Int) (n : Nat) (b : Bool) : St := ⟨setT (stA g m n).tm Tab.q17 (.bool b), [], .non, (stA g m n).h⟩
theorem body4 : Tab.s4.body = .seq pA (.seq (.seq pB pC) pR) := rfl
theorem runA (g m : Int) (n : Nat) : K.exec (XK 60) 5000 pA ⟨tm0 g m n, [], .non, h0⟩ = some (.norm, stA g m n) := by kernel_rfl
theorem runB (g m : Int) (n : Nat) : K.exec (XK 60) 5000 pB (stA g m n) = some (.norm, stB g m n (Nat.blt 500 n)) := by kernel_rfl
theorem long (g m : Int) (n : Nat) : isTrue (finS Tab.tab.find (XK 60) 5000 Tab.s4.res (thenS (K.exec (XK 60) 5000 pC (stB g m n true)) (K.exec (XK 60) 5000 pR))) = true := by kernel_rfl
theorem short (g m : Int) (n : Nat) : isTrue (finS Tab.tab.find (XK 60) 5000 Tab.s4.res (thenS (K.exec (XK 60) 5000 pC (stB g m n false)) (K.exec (XK 60) 5000 pR))) = true := by kernel_rfl
theorem XK_eq (k : Nat) : XK k = X k := K.ctx_eq _ _ _ _ _
theorem all (g m : Int) (n : Nat) : ∃ h', (X 61).call 4 (args g m n) h0 = some (.ret (.bool true) h') := by
  refine isTrue_spec ?_
  have h1 := call_body (F := Tab.tab.find) (M := mfind Tab.ml) (S := S3) (lf := 5000) (n := 60) (f := 4) (sf := Tab.s4) (args := args g m n) (h := h0) (t := tm0 g m n) rfl (by kernel_rfl) (by kernel_rfl)
  have e : ctx Tab.tab.find (mfind Tab.ml) S3 5000 60 = XK 60 := (XK_eq 60).symm
  have hA : exec (X 60) 5000 pA ⟨tm0 g m n, [], .non, h0⟩ = some (.norm, stA g m n) := by rw [← K.exec_eq, ← XK_eq]; exact runA g m n
  have hB : exec (X 60) 5000 pB (stA g m n) = some (.norm, stB g m n (Nat.blt 500 n)) := by rw [← K.exec_eq, ← XK_eq]; exact runB g m n
  refine (congrArg Sh.isTrue h1).trans ?_
  show Sh.isTrue (finS Tab.tab.find (X 60) 5000 Tab.s4.res (exec (X 60) 5000 Tab.s4.body ⟨tm0 g m n, [], .non, h0⟩)) = true
  rw [body4, seq_norm hA, seq_norm2 hB]
  rw [← K.exec_eq (X 60) 5000 pC, ← K.exec_eq (X 60) 5000 pR, ← XK_eq]
  cases Nat.blt 500 n
  · exact short g m n
  · exact long g m n
end Go.Proofs.YtgpcmjmpiabpmaaGreat
