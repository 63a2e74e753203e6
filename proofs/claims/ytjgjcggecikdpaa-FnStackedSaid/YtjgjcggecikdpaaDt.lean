/- Contracts: tempo maps drawn from bytes. Conditions: as each says. -/
import Derived.Test.YtjgjcggecikdpaaDs
set_option linter.unusedSimpArgs false
set_option linter.unusedVariables false
namespace Go.Proofs.Ytjgjcggecikdpaa
open Go.RowKit Sx
set_option maxRecDepth 100000
set_option maxHeartbeats 1000000
def sampL : List Int := [1, 7, 12, 24, 48, 60, 100, 1000]
/-- The step from a beat to the next one: never 0. -/
def stepS (s : Src) : Fr × Src := (if (beatS s 3).1.1 = 0 then (1, 2) else (beatS s 3).1, (beatS s 3).2)
theorem stepS_ok {s : Src} {m : Int} (h : okS s m) : okS (stepS s).2 (m + 4) := beatS_ok h 3
theorem stepS_bd {s : Src} {m : Int} (h : okS s m) :
    okF (stepS s).1.1 (stepS s).1.2 = true ∧ 1 ≤ (stepS s).1.1 ∧ (stepS s).1.1 ≤ 3 * (stepS s).1.2 ∧ (stepS s).1.2 ≤ 8 := by
  have hb := beatS_bd h (most := 3) (by omega)
  unfold stepS
  split
  · exact ⟨show okF 1 2 = true by decide, by simp, by simp, by simp⟩
  · exact ⟨hb.1, by simp only; omega, hb.2.2.1, hb.2.2.2⟩
def drawT : Nat → Src → Fr → List tTempo.den × Src
  | 0, s, _ => ([], s)
  | n + 1, s, b =>
    (((b, (amongS s sampL).1) : tTempo.den) :: (drawT n (stepS (amongS s sampL).2).2 (addF b.1 b.2 (stepS (amongS s sampL).2).1.1 (stepS (amongS s sampL).2).1.2).1).1,
      (drawT n (stepS (amongS s sampL).2).2 (addF b.1 b.2 (stepS (amongS s sampL).2).1.1 (stepS (amongS s sampL).2).1.2).1).2)
theorem drawT_ok : ∀ (n : Nat) {s : Src} {m : Int} (b : Fr), okS s m → okS (drawT n s b).2 (m + 6 * n)
  | 0, _, _, _, h => h.mono (by omega)
  | n + 1, s, m, b, h => by
    have := drawT_ok n (addF b.1 b.2 (stepS (amongS s sampL).2).1.1 (stepS (amongS s sampL).2).1.2).1 (stepS_ok (amongS_ok h sampL))
    exact this.mono (by omega)
def tmapS (s : Src) : List tTempo.den × Src := drawT (1 + (pickS s 4).1).toNat (pickS s 4).2 (0, 1)

def C_Dt : FuncId → Option Ct := C_Ds
theorem C_Dt_ok : COk Try.prog C_Dt := C_Ds_ok
end Go.Proofs.Ytjgjcggecikdpaa
