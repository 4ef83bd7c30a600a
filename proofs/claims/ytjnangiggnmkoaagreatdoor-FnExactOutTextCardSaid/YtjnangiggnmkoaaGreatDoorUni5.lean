/- What holds of bindings holds of those that making terms the same gives. No program in sight. -/
import Derived.Test.YtjnangiggnmkoaaGreatDoorUni3
namespace Go.Proofs.YtjnangiggnmkoaaGreatDoor
theorem U_binv {V : List Int} : ∀ {n : Nat} {s : Binds} {ps : List (Trm × Trm)} {s' : Binds}, Uinv V s ps → U n s ps = some (some s') → Binv V s'
  | 0, s, ps, s', _, h => by simp [U] at h
  | n + 1, s, [], s', hi, h => by
    rw [U] at h
    obtain rfl := Option.some.inj (Option.some.inj h)
    exact hi.b
  | n + 1, s, (a, b) :: ps, s', hi, h => by
    obtain ⟨x, xs, y, ys, _, _, _, _, _, _, _, _, hst⟩ := U_step h hi
    cases hst with
    | pop _ _ hU hI => exact U_binv hI hU
    | loopL _ _ _ hr => cases hr
    | bindL _ _ _ hU hI => exact U_binv hI hU
    | loopR _ _ _ hr => cases hr
    | bindR _ _ _ hU hI => exact U_binv hI hU
    | apart _ _ _ hr => cases hr
    | args _ _ _ hU hI => exact U_binv hI hU
theorem U_nil {n : Nat} {s : Binds} {r : Option Binds} (h : U n s [] = some r) : r = some s := by
  cases n with
  | zero => simp [U] at h
  | succ n => rw [U] at h; exact (Option.some.inj h).symm
end Go.Proofs.YtjnangiggnmkoaaGreatDoor
