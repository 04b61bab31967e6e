/- NO PROGRAM IN SIGHT. A range over a function whose iterator keeps a state of its own in memory: the iterator's own steps are a relation St that the caller's invariant abides. At the wide fence. -/
import Derived.RangeFuncNested
import Derived.RangeFuncCalls
import Derived.RangeFuncLeaves
import Derived.RangeFuncBox
namespace Go.Proofs.Ytblopfgnhokocaa.Rng
open Go Go.RowKit
set_option linter.unusedVariables false
variable {P : Program}

/-- The loop's record and the block for deferred calls. -/
def Pair (w : World) (l D : Nat) (r : Loop) : Prop := w.heap[l]? = some (.loop r) ∧ w.heap[D]? = some (.deferred (some []))
theorem Pair.keeps {A B : World} {l D m : Nat} {r : Loop} (h : Pair A l D r) (k : KeepsFrom m A B) (h1 : m ≤ l) (h2 : m ≤ D) : Pair B l D r := ⟨k.same _ _ h1 h.1 rfl, k.same _ _ h2 h.2 rfl⟩
theorem Pair.put {A : World} {l D : Nat} {r : Loop} (h : Pair A l D r) (hne : D ≠ l) (r' : Loop) : Pair (A.putObj l (.loop r')) l D r' :=
  ⟨World.putObj_heap_same (Array.getElem?_eq_some_iff.1 h.1).1, (World.putObj_heap_other hne).trans h.2⟩

theorem rng {α : Type} {g : Operand} {ps : Array Tmp} {assign body : Code} {Q : Exit → Act → World → Prop} {a : Act} {w : World} {gf : Nat} {lb : Array Value} (hg : a.eval g = .func (.func gf) #[] lb)
    (eg : ∀ args w, (callFunc gf args).run P w = .ok (.enter gf args) w) {encs : α → Array Value} (hps : ∀ x, (encs x).size = ps.size)
    (St Kp : World → World → Prop) (hSt : ∀ A B, St A B → KeepsOthers A B) (hKt : ∀ {A B C : World}, Kp A B → Kp B C → Kp A C)
    (hKb : ∀ (W : World) (l : Nat) (o o' : Obj), w.heap.size ≤ l → W.heap[l]? = some o → o.isCells = false → Kp W (W.putObj l o'))
    {S Sp : List α → Prop} {N : Nat} (I : List α → World → Prop) (Ix : Code → List α → World → Prop) (hI : OwnFrom w.heap.size I) (hIx : ∀ c, OwnFrom w.heap.size (Ix c))
    (hIs : ∀ s A B, I s A → St A B → I s B) (hIxs : ∀ c s A B, Ix c s A → St A B → Ix c s B) (h0 : I [] w)
    (hseq : ∀ (l : Nat) (J Jx : List α → World → Prop) (W : World), Below w.heap.size w W → w.heap.size ≤ W.heap.size → (∀ s A B, J s A → St A B → J s B) → (∀ s A B, Jx s A → St A B → Jx s B) →
      (∀ pre x W1, J pre W1 → pre.length < N → YieldAt Fence.wide 0 P l (encs x) W1 fun e W' => (e = .returned (.bool true) ∧ J (pre ++ [x]) W' ∧ Kp W1 W') ∨ (e = .returned (.bool false) ∧ Jx (pre ++ [x]) W')) →
      J [] W → CallsIn Fence.wide 0 P gf (#[.func (.yield l) #[] #[]] ++ lb) W fun e W' => (∃ v, e = .returned v) ∧ ((∃ xs, S xs ∧ J xs W') ∨ (∃ pre, Sp pre ∧ Jx pre W')))
    (Ax : α → Act → World → Prop) (hAx : ∀ x a', OwnFrom w.heap.size (fun (_ : Unit) => Ax x a'))
    (hassign : ∀ (l : Nat) (pre : List α) (x : α) (W : World) (K : Act → World → Prop), I pre W → (∀ a' W', KeepsFrom w.heap.size W W' → Kp W W' → I pre W' → Ax x a' W' → K a' W') →
      assign.wpIn (Fence.wide.inRound l) 0 P (Exit.then K (fun _ _ _ => False)) { tmps := (ps.zip (encs x)).foldl (fun t (p, v) => t.setIfInBounds p v) a.tmps, defers := [] } W)
    (hbody : ∀ (l : Nat) (pre : List α) (x : α) (a' : Act) (W : World), I pre W → Ax x a' W → pre.length < N → body.wpIn (Fence.wide.inRound l) 0 P (ownPostG w.heap.size Kp I Ix (pre ++ [x]) W) a' W)
    (hdone : ∀ (D : Nat) (xs : List α) (W : World), w.heap.size ≤ D → S xs → I xs W → W.heap[D]? = some (.deferred (some [])) → Q .normal { a with defers := { target := .collected D, args := #[] } :: a.defers } W)
    (hstop : ∀ (D : Nat) (c : Code) (pre : List α) (W : World), w.heap.size ≤ D → Sp pre → Ix c pre W → W.heap[D]? = some (.deferred (some [])) → c.wp P Q { a with defers := { target := .collected D, args := #[] } :: a.defers } W) :
    (Code.rangeFunc g ps assign body).wp P Q a w := by
  refine (wpIn_wide (n := 0)).1 (wpIn_rangeFunc (F := Fence.wide) fun fn _ => ?_)
  obtain ⟨B, hB⟩ : ∃ B, B = w.heap.size := ⟨_, rfl⟩
  rw [← hB] at hI hIx hAx hassign hbody hdone hstop hseq hKb
  let rec' : LoopState → Option Code → Loop := fun st pe => { state := st, pending := pe, fn, tmps := a.tmps, params := ps, assign, body, defers := B }
  let W1 := (w.alloc (.deferred (some []))).alloc (.loop (rec' .ready none))
  have pair0 : Pair W1 (B + 1) B (rec' .ready none) := by
    subst hB
    refine ⟨?_, (Below.heap_alloc _ _ _ (by simp)).trans (World.alloc_heap_new w _)⟩
    have := World.alloc_heap_new (w.alloc (.deferred (some []))) (.loop (rec' .ready none))
    rwa [World.size_alloc] at this
  have bel : Below B w W1 := by subst hB; exact ((Below.refl _ w).alloc (Nat.le_refl _) _).alloc (by simp) _
  have hne : B ≠ B + 1 := by omega
  refine ⟨B + 1, [{ target := .collected B, args := #[] }], W1, { target := .fn (.func gf) lb, args := #[.func (.yield (B + 1)) #[] #[]] }, W1, gf, #[.func (.yield (B + 1)) #[] #[]] ++ lb, W1, ?_, ?_, fun _ _ => trivial, ?_, fun h => by simp [Fence.wide] at h, ?_⟩
  · subst hB; exact run_enterLoop_outer fn a.tmps ps assign body
  · simp only [resolve, hg]; simp [go_sem]
  · simp [invoke, go_sem, eg]
  refine (hseq (B + 1) (fun pre W => I pre W ∧ Pair W (B + 1) B (rec' .ready none)) (fun pre W => ∃ c, Ix c pre W ∧ Pair W (B + 1) B (rec' .done (some c))) W1 bel (by rw [hB]; exact bel.size)
    (fun s X Y h st => ⟨hIs s X Y h.1 st, h.2.keeps ((hSt X Y st).from 0) (Nat.zero_le _) (Nat.zero_le _)⟩)
    (fun s X Y h st => by obtain ⟨c, h1, h2⟩ := h; exact ⟨c, hIxs c s X Y h1 st, h2.keeps ((hSt X Y st).from 0) (Nat.zero_le _) (Nat.zero_le _)⟩)
    ?round ⟨hI.alloc _ (hI.alloc _ h0), pair0⟩).mono ?after
  case round =>
    rintro pre x W ⟨hi, hp⟩ hlen
    refine ⟨fn, _, assign, body, run_yield (r := rec' .ready none) hp.1 (hps x), roundIn_of_wpIn trivial (hassign _ pre x W _ hi ?_)⟩
    intro a' V hkf hkp hiV hax
    have hpV := hp.keeps hkf (by omega) (Nat.le_refl _)
    refine ⟨_, run_beginRound hpV.1 rfl, ?_⟩
    have hpB := hpV.put hne { rec' .ready none with state := .busy }
    have k1 : Kp V (V.putObj (B + 1) (.loop { rec' .ready none with state := .busy })) := hKb _ _ _ _ (by omega) hpV.1 rfl
    refine wpIn_mono (hbody _ pre x a' _ (hI.putObj _ hiV (by omega) hpV.1 rfl) ((hAx x a').putObj (s := ()) _ hax (by omega) hpV.1 rfl) hlen) ?_
    have leave : ∀ (j : Option Code) (Z : World), KeepsFrom B (V.putObj (B + 1) (.loop { rec' .ready none with state := .busy })) Z → ∃ Z', (Instr.endRound (B + 1) j).run P Z = .ok (.bool j.isNone) Z' ∧ Z' = Z.putObj (B + 1) (.loop (rec' (if j.isNone then .ready else .done) j)) ∧ Pair Z (B + 1) B { rec' .ready none with state := .busy } := by
      intro j Z hk
      have hz := hpB.keeps hk (by omega) (Nat.le_refl _)
      exact ⟨_, run_endRound j hz.1, rfl, hz⟩
    intro e a3 Z hpost
    cases e with
    | normal =>
      obtain ⟨q1, q2, q3⟩ := hpost
      obtain ⟨Z', r1, rfl, hz⟩ := leave none Z q1
      exact ⟨_, _, r1, .inl ⟨rfl, ⟨hI.putObj _ q3 (by omega) hz.1 rfl, hz.put hne _⟩, hKt hkp (hKt k1 (hKt q2 (hKb _ _ _ _ (by omega) hz.1 rfl)))⟩⟩
    | ret =>
      obtain ⟨q1, q3⟩ := hpost
      obtain ⟨Z', r1, rfl, hz⟩ := leave (some .ret) Z q1
      exact ⟨_, _, r1, .inr ⟨rfl, .ret, (hIx _).putObj _ q3 (by omega) hz.1 rfl, hz.put hne _⟩⟩
    | exit id =>
      obtain ⟨q1, q3⟩ := hpost
      obtain ⟨Z', r1, rfl, hz⟩ := leave (some (.exit id)) Z q1
      exact ⟨_, _, r1, .inr ⟨rfl, .exit id, (hIx _).putObj _ q3 (by omega) hz.1 rfl, hz.put hne _⟩⟩
    | goto t =>
      obtain ⟨q1, q3⟩ := hpost
      obtain ⟨Z', r1, rfl, hz⟩ := leave (some (.goto t)) Z q1
      exact ⟨_, _, r1, .inr ⟨rfl, .goto t, (hIx _).putObj _ q3 (by omega) hz.1 rfl, hz.put hne _⟩⟩
    | panic ch => exact hpost.elim
    | outgrown => exact hpost.elim
  case after =>
    rintro e V ⟨⟨v, rfl⟩, hh⟩
    rcases hh with ⟨xs, hS, hi, hp⟩ | ⟨pre, hSp, c, hi, hp⟩
    · exact ⟨none, _, run_endLoop hp.1 (by simp [rec']), hdone _ xs _ (Nat.le_refl _) hS (hI.putObj _ hi (by omega) hp.1 rfl) (hp.put hne _).2⟩
    · exact ⟨some c, _, run_endLoop hp.1 (by simp [rec']), wpIn_wide.2 (hstop _ c pre _ (Nat.le_refl _) hSp ((hIx c).putObj _ hi (by omega) hp.1 rfl) (hp.put hne _).2)⟩
end Go.Proofs.Ytblopfgnhokocaa.Rng
