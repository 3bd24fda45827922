/-
  outriderlaw25.HubNil: its contract.
-/
import Derived.Test.YtgpcmjmpiabpmaaGreatNilRun
import Derived.Below
namespace Go.Proofs.YtgpcmjmpiabpmaaGreat
open Go Go.Sh Go.RowKit

theorem X_sound (k : Nat) : SoundX Tryz.prog (X k) := sound S3_ok 5000 k

theorem h0_ok (w : World) : HR Tryz.prog (fun _ => none) h0 w where
  fresh := fun b l h => by cases h
  hfresh := fun b o h => by
    have h' : T.get b (.nil : T SObj) = some o := h
    rw [T.get_nil] at h'
    cases h'
  lt := fun b l h => by cases h
  obj := fun b o l _ h => by cases h
  excl := fun b1 b2 o1 o2 l1 l2 _ _ h => by cases h
  fam := fun b l sz g fam h => by
    have h' : T.get b (.nil : T SObj) = some (.row l sz g true fam) := h
    rw [T.get_nil] at h'
    cases h'

theorem nil_any (g m : Int) (a : Option Addr) (n c : Nat) (w : World) :
    Calls Tryz.prog 4 #[.agg #[.int .i64 g, .int .i64 m], .slice a n c] w fun e w' => e = .returned (.bool true) ∧ Below w.heap.size w w' := by
  obtain ⟨h', hc⟩ := all g m n
  have hv : VRs (fun _ => none) (args g m n) (#[Value.agg #[.int .i64 g, .int .i64 m], .slice a n c] : Array Value).toList := by
    refine .cons (.agg _ _ (.cons _ _ _ _ (.int _ _) (.cons _ _ _ _ (.int _ _) .nl)) ?_) (.cons (.tslc _ _ _) .nil)
    intro c hc
    simp at hc
    rcases hc with rfl | rfl <;> rfl
  refine (((X_sound 61).call hc (h0_ok w) hv).2).mono fun e w' hE => ?_
  obtain ⟨ρ', u, rfl, hu, _, hx⟩ := hE
  obtain rfl := hu.bool_inv
  exact ⟨rfl, hx.os, hx.tape, hx.output, hx.size, fun k hk => hx.keep k hk (fun b l hb => by cases hb)⟩

end Go.Proofs.YtgpcmjmpiabpmaaGreat
