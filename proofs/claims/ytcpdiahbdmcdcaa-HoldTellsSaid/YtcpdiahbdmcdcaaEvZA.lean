/- More rounds tell the same. -/
import Derived.Test.YtcpdiahbdmcdcaaEvZ
namespace Go.Proofs.Ytcpdiahbdmcdcaa.Ev
open Go Go.RowKit

variable {G : Env} {run run' : Run} {α : Type} {r : α}

theorem callK_mono (h : ∀ g xs r, run g xs = some r → run' g xs = some r) {s : St} {d : Option Nat} {f : FuncId} {caps : List Pt} {xs : List Operand} {fx : Eff} (hk : callK G run s d f caps xs some = some fx) : callK G run' s d f caps xs some = some fx := by
  unfold callK at hk ⊢
  refine bind_par hk fun i _ hk => bind_par hk fun l _ hk => cond_par hk fun _ hk => ?_
  obtain ⟨r, hr, hk⟩ := bind_some hk
  rw [h _ _ _ hr]
  exact hk

theorem opK_mono (h : ∀ g xs r, run g xs = some r → run' g xs = some r) {o : Oper} {s : St} {fx : Eff} (hk : opK G run o s some = some fx) : opK G run' o s some = some fx := by
  cases ho : o.op <;> simp only [opK, ho] at hk ⊢ <;> (try exact hk)
  case makeFunc F first caps => cases F <;> exact hk
  case call cl =>
    cases hcl : cl.callee <;> simp only [hcl] at hk ⊢ <;> (try exact hk)
    case value F =>
      cases F <;> simp only at hk ⊢ <;> (try exact hk)
      case tmp t =>
        generalize s.look t = e at hk ⊢
        split at hk
        · exact callK_mono h hk
        · exact callK_mono h hk
        · cases hk
      case func g => exact callK_mono h hk

theorem stepK_mono (h : ∀ g xs r, run g xs = some r → run' g xs = some r) {ops : List Oper} {o : Oper} {s : St} {fx : Eff} (hk : stepK G run ops o s some = some fx) : stepK G run' ops o s some = some fx := by
  unfold stepK at hk ⊢
  cases hg : o.guard with
  | none => rw [hg] at hk; exact opK_mono h hk
  | some g =>
    rw [hg] at hk
    exact bind_par hk fun _ _ hk => bind_par hk fun _ _ hk => cond_par2 hk (fun _ hk => opK_mono h hk) fun _ hk => hk

theorem opsK_mono (h : ∀ g xs r, run g xs = some r → run' g xs = some r) {all : List Oper} {K K' : St → Option α} (hK : ∀ s, K s = some r → K' s = some r) : ∀ (l : List Oper) (s : St), opsK G run all l K s = some r → opsK G run' all l K' s = some r
  | [], s, hk => hK s hk
  | o :: l, s, hk => by
    simp only [opsK] at hk ⊢
    refine cond_par hk fun _ hk => ?_
    rw [refineK_eq, stepK_cps] at hk ⊢
    obtain ⟨f, hf, hk⟩ := bind_some hk
    rw [stepK_mono h hf]
    exact opsK_mono h hK l _ hk

theorem drawnK_mono (h : ∀ g xs r, run g xs = some r → run' g xs = some r) {all : List Oper} {K K' : St → Option α} (hK : ∀ s, K s = some r → K' s = some r) : ∀ (l : List Oper) (bs : List (List Nat)) (fs : List Foot) (s : St), drawnK G run all l bs fs K s = some r → drawnK G run' all l bs fs K' s = some r
  | [], bs, fs, s, hk => hK s hk
  | o :: l, bs, fs, s, hk => by
    simp only [drawnK] at hk ⊢
    refine cond_par hk fun _ hk => ?_
    rw [refineK_eq, stepK_cps] at hk ⊢
    obtain ⟨f, hf, hk⟩ := bind_some hk
    rw [stepK_mono h hf]
    exact cond_par hk fun _ hk => drawnK_mono h hK l _ _ _ hk

theorem seqK_mono {f f' : St → Option α} {K K' : Ex → St → Option α} (hf : ∀ s, f s = some r → f' s = some r) (hK : ∀ e s, K e s = some r → K' e s = some r) : ∀ e s, seqK f K e s = some r → seqK f' K' e s = some r
  | .normal, s, h => hf s h
  | .exit id, s, h => hK (.exit id) s h
  | .ret, s, h => hK .ret s h
theorem blockK_mono {id : Nat} {K K' : Ex → St → Option α} (hK : ∀ e s, K e s = some r → K' e s = some r) : ∀ e s, blockK id K e s = some r → blockK id K' e s = some r
  | .normal, s, h => hK .normal s h
  | .exit id', s, h => cond_par2 h (fun _ h => hK .normal s h) fun _ h => hK (.exit id') s h
  | .ret, s, h => hK .ret s h

theorem iterK_mono {step step' : (Ex → St → Option α) → St → Option α} {ks ko : List Nat} (hs : ∀ (K K' : Ex → St → Option α), (∀ e s, K e s = some r → K' e s = some r) → ∀ s, step K s = some r → step' K' s = some r) {K K' : Ex → St → Option α} (hK : ∀ e s, K e s = some r → K' e s = some r) :
    ∀ (n n' : Nat) (s : St), n ≤ n' → iterK step ks ko K n s = some r → iterK step' ks ko K' n' s = some r
  | 0, _, _, _, h => by cases h
  | n + 1, 0, _, hn, _ => by omega
  | n + 1, n' + 1, s, hn, h => by
    simp only [iterK] at h ⊢
    exact hs _ _ (seqK_mono (fun s h => iterK_mono hs hK n n' _ (by omega) h) hK) s h

theorem evalK_mono (h : ∀ g xs r, run g xs = some r → run' g xs = some r) {n n' : Nat} (hn : n ≤ n') (keep : List (Nat × (List Nat × List Nat))) : ∀ (c : Code) (b : Nat) (K K' : Ex → St → Option α), (∀ e s, K e s = some r → K' e s = some r) → ∀ s, evalK G run n keep b c K s = some r → evalK G run' n' keep b c K' s = some r
  | .skip, b, K, K', hK, s, hk => hK .normal s hk
  | .region id ops draw, b, K, K', hK, s, hk => by
    simp only [evalK] at hk ⊢
    exact cond_par2 hk (fun _ hk => cond_par hk fun _ hk => drawnK_mono h (hK .normal) _ _ _ s hk) fun _ hk => opsK_mono h (hK .normal) _ s hk
  | .seq x y, b, K, K', hK, s, hk => evalK_mono h hn keep x b _ _ (seqK_mono (evalK_mono h hn keep y b K K' hK) hK) s hk
  | .cond c x y, b, K, K', hK, s, hk => by
    simp only [evalK] at hk ⊢
    exact bind_par hk fun _ _ hk => cond_par2 hk (fun _ hk => evalK_mono h hn keep x b K K' hK s hk) fun _ hk => evalK_mono h hn keep y b K K' hK s hk
  | .block id x, b, K, K', hK, s, hk => evalK_mono h hn keep x id _ _ (blockK_mono hK) s hk
  | .loop x, b, K, K', hK, s, hk => by
    simp only [evalK] at hk ⊢
    exact bind_par hk fun _ _ hk => iterK_mono (fun K K' hK s hk => evalK_mono h hn keep x b K K' hK s hk) hK n n' _ hn hk
  | .exit id, b, K, K', hK, s, hk => hK (.exit id) s hk
  | .ret, b, K, K', hK, s, hk => hK .ret s hk
  | .rangeFunc _ _ _ _, _, _, _, _, _, hk => by cases hk
  | .scope _, _, _, _, _, _, hk => by cases hk
  | .label _, _, _, _, _, _, hk => by cases hk
  | .goto _, _, _, _, _, _, hk => by cases hk
  | .refuse _, _, _, _, _, _, hk => by cases hk

theorem runE_step {ext : Run} (hE : ∀ f xs r, ext f xs = some r → ∀ m, runE G ext m f xs = some r) : ∀ (n : Nat) f xs r, runE G ext n f xs = some r → runE G ext (n + 1) f xs = some r
  | 0, f, xs, r, h => hE f xs r h 1
  | n + 1, f, xs, r, h => by
    have ih := runE_step hE n
    rw [runE] at h ⊢
    simp only at h ⊢
    cases hf : assoc G.fns f with
    | none => rw [hf] at h; exact h
    | some i =>
      rw [hf] at h
      exact cond_par2 h (fun _ h => h) fun _ h => evalK_mono ih (Nat.le_succ n) _ _ _ _ _ (fun _ _ h => h) _ h

theorem runE_mono {ext : Run} (hE : ∀ f xs r, ext f xs = some r → ∀ m, runE G ext m f xs = some r) {n m : Nat} (hn : n ≤ m) {f : FuncId} {xs : List AV} {r : Res} (h : runE G ext n f xs = some r) : runE G ext m f xs = some r := by
  induction hn with
  | refl => exact h
  | step _ ih => exact runE_step hE _ f xs r ih

/- tests, as functions -/
def ltI (a b : Int) : Bool := decide (a < b)
def leI (a b : Int) : Bool := decide (a ≤ b)
def eqI (a b : Int) : Bool := decide (a = b)
def eqS (a b : List UInt8) : Bool := decide (a = b)
def eqO (a b : Bool) : Bool := decide (a = b)
theorem ltI_t {a b : Int} (h : a < b) : ltI a b = true := decide_eq_true h
theorem ltI_f {a b : Int} (h : ¬ a < b) : ltI a b = false := decide_eq_false h
theorem leI_t {a b : Int} (h : a ≤ b) : leI a b = true := decide_eq_true h
theorem leI_f {a b : Int} (h : ¬ a ≤ b) : leI a b = false := decide_eq_false h
theorem eqI_t {a b : Int} (h : a = b) : eqI a b = true := decide_eq_true h
theorem eqI_f {a b : Int} (h : ¬ a = b) : eqI a b = false := decide_eq_false h
theorem eqS_t {a b : List UInt8} (h : a = b) : eqS a b = true := decide_eq_true h
theorem eqS_f {a b : List UInt8} (h : ¬ a = b) : eqS a b = false := decide_eq_false h
theorem eqO_t {a b : Bool} (h : a = b) : eqO a b = true := decide_eq_true h
theorem eqO_f {a b : Bool} (h : ¬ a = b) : eqO a b = false := decide_eq_false h
theorem eqS_iff {a b : List UInt8} : eqS a b = true ↔ a = b := decide_eq_true_iff
theorem eqI_iff {a b : Int} : eqI a b = true ↔ a = b := decide_eq_true_iff
theorem ltI_iff {a b : Int} : ltI a b = true ↔ a < b := decide_eq_true_iff
theorem leI_iff {a b : Int} : leI a b = true ↔ a ≤ b := decide_eq_true_iff

/-- From some number of rounds on. -/
def Evt (p : Nat → Prop) : Prop := ∃ n0, ∀ n, n0 ≤ n → p n

theorem Evt.and {p q : Nat → Prop} (h : Evt p) (k : Evt q) : Evt fun n => p n ∧ q n := by
  obtain ⟨a, h⟩ := h
  obtain ⟨b, k⟩ := k
  exact ⟨a + b, fun n hn => ⟨h n (by omega), k n (by omega)⟩⟩
theorem Evt.mono {p q : Nat → Prop} (h : Evt p) (hq : ∀ n, p n → q n) : Evt q := by
  obtain ⟨a, h⟩ := h
  exact ⟨a, fun n hn => hq n (h n hn)⟩
theorem Evt.of {p : Nat → Prop} (h : ∀ n, p n) : Evt p := ⟨0, fun n _ => h n⟩
theorem Evt.ge (m : Nat) : Evt fun n => m ≤ n := ⟨m, fun _ h => h⟩
theorem Evt.succ {p : Nat → Prop} (h : Evt fun n => p (n + 1)) : Evt p := by
  obtain ⟨a, h⟩ := h
  exact ⟨a + 1, fun n hn => by obtain ⟨m, rfl⟩ : ∃ m, n = m + 1 := ⟨n - 1, by omega⟩; exact h m (by omega)⟩
theorem Evt.pred {p : Nat → Prop} (h : Evt p) : Evt fun n => p (n + 1) := by
  obtain ⟨a, h⟩ := h
  exact ⟨a, fun n hn => h _ (by omega)⟩
theorem Evt.ex {p : Nat → Prop} (h : Evt p) : ∃ n, p n := by
  obtain ⟨a, h⟩ := h
  exact ⟨a, h a (Nat.le_refl a)⟩
/-- For finitely many at once. -/
theorem Evt.all {p : Nat → Nat → Prop} : ∀ (m : Nat), (∀ i, i < m → Evt (p i)) → Evt fun n => ∀ i, i < m → p i n
  | 0, _ => .of fun _ i hi => by omega
  | m + 1, h => ((Evt.all m fun i hi => h i (by omega)).and (h m (by omega))).mono fun n hn i hi => by
    rcases Nat.lt_or_ge i m with h1 | h1
    · exact hn.1 i h1
    · rw [show i = m by omega]; exact hn.2

end Go.Proofs.Ytcpdiahbdmcdcaa.Ev
