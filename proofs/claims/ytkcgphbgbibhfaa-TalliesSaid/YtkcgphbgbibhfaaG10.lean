/- Regions whose order is drawn: which operations may change places. Nothing here is a statement on the program. -/
import Derived.Test.YtkcgphbgbibhfaaG9
namespace Go.Proofs.Ytkcgphbgbibhfaa.GW
open Go
set_option linter.unusedVariables false
set_option linter.unusedSimpArgs false

inductive Cls where
  | pure | load | alloc | write | none
  deriving DecidableEq

def cls : Op → Cls
  | .move _ | .assign _ | .pick _ _ _ | .build _ _ | .nilCheck _ | .binOp _ _ _ _ _ | .unOp _ _ _ | .convert _ _ _ | .makeInterface _ _ | .makeFunc _ _ _ | .slice _ _ _ _ _ | .fieldAddr _ _ _ | .field _ _ _ | .indexAddr _ _ _ | .index _ _ _ | .typeAssert _ _ _ _ | .extract _ _ => .pure
  | .load _ _ => .load
  | .alloc _ | .box _ _ | .buildSlice _ _ _ | .makeSlice _ _ _ => .alloc
  | .store _ _ _ => .write
  | .call c => (match c.callee with | .builtin .len => .pure | .builtin .min => .pure | .builtin .max => .pure | _ => .write)
  | _ => .none

section
variable {P : Program} {op : Op} {e : GEnv} {h : GH} {K : Value → GH → Prop}

theorem eqG_pure {t : TypeId} {c : Bool} {x y : Value} {K : Bool → Prop} (g : eqG P t c x y K) : ∃ r, ∀ K' : Bool → Prop, eqG P t c x y K' ↔ K' r := by
  unfold eqG at g ⊢
  split at g
  · obtain ⟨v, hv, g⟩ := bnd_iff.1 g; exact ⟨v, fun K' => by simp only [hv, bnd_some]⟩
  · split at g
    · rename_i hg; obtain ⟨v, hv, g⟩ := bnd_iff.1 g; exact ⟨v, fun K' => by simp only [hv, hg, bnd_some]⟩
    · exact g.elim
  · split at g
    · rename_i hg; obtain ⟨v, hv, g⟩ := bnd_iff.1 g; exact ⟨v, fun K' => by simp only [hv, hg, bnd_some]⟩
    · exact g.elim
  · split at g
    · rename_i hk; obtain ⟨v, hv, g⟩ := bnd_iff.1 g; exact ⟨v, fun K' => by simp only [hv, hk, bnd_some]⟩
    · exact g.elim
  · exact g.elim

theorem gop_pure (hc : cls op = .pure) (g : gop P op e h K) : ∃ v, ∀ h' (K' : Value → GH → Prop), gop P op e h' K' ↔ K' v h' := by
  cases op <;> simp only [cls, reduceCtorEq] at hc
  case slice t x lo hi mx =>
    cases mx with
    | some m => exact g.elim
    | none =>
      simp only [gop] at g ⊢
      repeat' (first | (exact (g : False).elim) | (split at g))
      all_goals first
        | (exact (g : False).elim)
        | (obtain ⟨v, hv, g⟩ := bnd_iff.1 g; exact ⟨_, fun h' K' => by simp only [hv, bnd_some]; exact Iff.rfl⟩)
  case call c =>
    simp only [gop] at g ⊢
    split at hc <;> first | (cases hc; done) | skip
    all_goals rename_i hcal
    all_goals simp only [hcal, gbi] at g ⊢
    all_goals
      repeat' (first | (exact (g : False).elim) | contradiction | (split at g))
      all_goals first
        | (exact (g : False).elim)
        | contradiction
        | exact ⟨_, fun h' K' => Iff.rfl⟩
        | (obtain ⟨v, hv, g⟩ := bnd_iff.1 g; exact ⟨_, fun h' K' => by simp only [hv, bnd_some]; exact Iff.rfl⟩)
  all_goals simp only [gop] at g ⊢
  case makeInterface t x =>
    split at g
    · exact g.elim
    · rename_i v d hn hx hd
      refine ⟨.iface t v, fun h' K' => ?_⟩
      first
        | exact Iff.rfl
        | (cases d <;> first | (exact (hn _ rfl).elim) | (simp only [hx, hd]))
    · exact g.elim
  all_goals
    repeat' (first | (exact (g : False).elim) | (split at g))
    all_goals first
      | (exact (g : False).elim)
      | exact (let ⟨r, f⟩ := eqG_pure g; ⟨_, fun h' K' => f _⟩)
      | exact ⟨_, fun h' K' => Iff.rfl⟩
      | (obtain ⟨v, hv, g⟩ := bnd_iff.1 g; exact ⟨_, fun h' K' => by simp only [hv, bnd_some]; exact Iff.rfl⟩)

end
end Go.Proofs.Ytkcgphbgbibhfaa.GW
