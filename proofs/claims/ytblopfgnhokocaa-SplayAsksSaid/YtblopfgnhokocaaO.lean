/- No program: what an argument is, opened: slices of numbers, slices of structs of numbers. -/
import Derived.Test.YtblopfgnhokocaaK
import Derived.WalkKit
import Derived.ProofKit
import Derived.OpenShut
import Derived.Below
import Derived.Carry
import Derived.ChangeOld
import Derived.ChangeSame
import Derived.Lib.SmallJoins
import Derived.Deep.Slices
import Derived.Deep.Fields
set_option linter.unusedVariables false
set_option linter.unusedSimpArgs false
namespace Go.Proofs.Ytblopfgnhokocaa
open Go.RowKit Go.ChangeShapes Go.WideShapes Go.Deep

theorem wf_in64 {a : Int} (h : (Lit.int .i64 a).wf = true) : In64 a := by
  simp [Lit.wf, IntKind.min, IntKind.max, IntKind.signed, IntKind.bits] at h
  unfold In64; omega
theorem wf_u8 {a : Int} (h : (Lit.int .u8 a).wf = true) : 0 ≤ a ∧ a ≤ 255 := by
  simp [Lit.wf, IntKind.min, IntKind.max, IntKind.signed, IntKind.bits] at h
  omega
theorem wf_u32 {a : Int} (h : (Lit.int .u32 a).wf = true) : 0 ≤ a ∧ a ≤ 4294967295 := by
  simp [Lit.wf, IntKind.min, IntKind.max, IntKind.signed, IntKind.bits] at h
  omega

section
variable {H : Type} {enc : TypeId × Value → H} {P : Program} {w : World} {base b0 : Nat} {spare : Nat → Bool} {held : Bool}

theorem opn_ints {t e : TypeId} {v : Value} {d : DataW H} {p : List MemPlace} (ht : P.underlying t = some (.slice e)) (he : P.underlying e = some (.int .i64)) (hc : P.cellsOf e = 1)
    (hv : Value.okWide P w .any b0 t v) (h : DataW.Trod enc P w base spare held t v d p) : ∃ a n c b l, v = .slice a n c ∧ Ints w b a n c l ∧ n ≤ c ∧ c ≤ maxLen := by
  obtain ⟨a, n, c, rfl⟩ := okWide_slice ht hv
  obtain ⟨fuel, hf⟩ := h
  rcases open_ints ht he hc hf with ⟨hcs, _⟩ | ⟨x, l, c', zs, hcs, _, hl, hm, hz, _, hcell, hwz⟩
  · simp [Value.cells] at hcs
    obtain ⟨rfl, rfl, rfl⟩ := hcs
    exact ⟨none, 0, 0, 0, [], rfl, Ints.nil _ _ _ _ (fun _ => rfl), Nat.le_refl _, Nat.zero_le _⟩
  · simp [Value.cells] at hcs
    obtain ⟨rfl, rfl, rfl⟩ := hcs
    by_cases h0 : n = 0
    · subst h0
      exact ⟨some x, 0, c, 0, [], rfl, Ints.nil _ _ _ _ (fun e => by cases e), Nat.zero_le _, hm⟩
    · have hz' : n ≤ zs.length := by rw [hz]; split <;> omega
      obtain ⟨b, off, rfl, hcc⟩ := ints_at hcell (by omega)
      refine ⟨_, n, c, b, zs.take n, rfl, ⟨by simp; omega, fun y hy => wf_in64 (hwz y (List.mem_of_mem_take hy)), (fun e => by cases e), fun _ => ⟨off, rfl, fun k hk => ?_⟩⟩, hl, hm⟩
      rw [hcc k (by omega)]
      simp [List.getD_eq_getElem?_getD, List.getElem?_take, hk]

/-- A slice of structs of numbers: element i, field j. -/
def Recs (w : World) (b : Nat) (a : Option Addr) (n m : Nat) (kd : Nat → IntKind) (f : Nat → Nat → Int) : Prop :=
  (∀ i j, i < n → j < m → (Lit.int (kd j) (f i j)).wf = true) ∧ (0 < n → ∃ off, a = some ⟨b, off, none⟩ ∧ ∀ i j, i < n → j < m → w.cell? ⟨b, off + (i * m + j), none⟩ = some (.int (kd j) (f i j)))

theorem opn_recs {t e : TypeId} {fs : Array Field} {kd : Nat → IntKind} {v : Value} {d : DataW H} {p : List MemPlace} (ht : P.underlying t = some (.slice e)) (he : P.underlying e = some (.struct fs))
    (hone : oneCellFields P fs = true) (hC : P.cellsOf e = fs.size) (hfs : 0 < fs.size) (hk : ∀ j f, fs[j]? = some f → P.underlying f.type = some (.int (kd j)))
    (hv : Value.okWide P w .any b0 t v) (h : DataW.Trod enc P w base spare held t v d p) : ∃ a n c b f, v = .slice a n c ∧ Recs w b a n fs.size kd f ∧ n ≤ c ∧ c ≤ maxLen := by
  obtain ⟨a, n, c, rfl⟩ := okWide_slice ht hv
  obtain ⟨fuel, hf⟩ := h
  rcases open_slice ht hf with ⟨hcs, _⟩ | ⟨x, len, cap, m, nn, D, Pl, hcs, _, hl, hm, hmm, _, hi⟩
  · simp [Value.cells] at hcs
    obtain ⟨rfl, rfl, rfl⟩ := hcs
    exact ⟨none, 0, 0, 0, fun _ _ => 0, rfl, ⟨fun i j hi => absurd hi (by omega), fun h => absurd h (by omega)⟩, Nat.le_refl _, Nat.zero_le _⟩
  · simp [Value.cells] at hcs
    obtain ⟨rfl, rfl, rfl⟩ := hcs
    have hmn : n ≤ m := by rw [hmm]; split <;> omega
    have key : ∀ i j, i < n → j < fs.size → ∃ z : Int, w.cell? (x.add (i * fs.size + j)) = some (.int (kd j) z) ∧ (Lit.int (kd j) z).wf = true := by
      intro i j hin hj
      obtain ⟨cs', hc, ht'⟩ := hi i (by omega)
      rw [hC] at hc
      obtain ⟨ys, n', hn', hy, hlen, hyl, hf'⟩ := DataW.trod_struct he ht'
      obtain ⟨_, hcl, hat⟩ := World.cells?_some hc
      have hfj : fs[j]? = some fs[j] := Array.getElem?_eq_getElem hj
      obtain ⟨ho, hko⟩ := hone_of hone j fs[j] hfj
      have hcell := hat j hj
      have hcv : cs'[j]? = some (cs'[j]'(by omega)) := List.getElem?_eq_getElem (by omega)
      have h1 := hf' j fs[j] hfj
      rw [ho, hko] at h1
      have hone' : (cs'.drop j).take 1 = [cs'[j]'(by omega)] := by
        rw [List.drop_eq_getElem_cons (by omega)]
        rfl
      rw [hone'] at h1
      have hys : ys[j]? = some (ys[j]'(by omega)) := List.getElem?_eq_getElem (by omega)
      obtain ⟨z, hz, -, hw⟩ := DataW.trod_int (hk j fs[j] hfj) (h1.trans hys)
      refine ⟨z, ?_, hw⟩
      rw [← Go.Deep.add_add, hcell, hcv]
      simpa using hz
    by_cases h0 : n = 0
    · subst h0
      exact ⟨some x, 0, c, 0, fun _ _ => 0, rfl, ⟨fun i j hi => absurd hi (by omega), fun h => absurd h (by omega)⟩, Nat.zero_le _, hm⟩
    · obtain ⟨b, off, spot⟩ := x
      have hspot : spot = none := by
        obtain ⟨z, hz, -⟩ := key 0 0 (by omega) hfs
        simpa [Addr.add] using World.cell?_spot hz
      subst hspot
      refine ⟨_, n, c, b, fun i j => if h : i < n ∧ j < fs.size then (key i j h.1 h.2).choose else 0, rfl, ⟨fun i j hi hj => ?_, fun _ => ⟨off, rfl, fun i j hi hj => ?_⟩⟩, hl, hm⟩
      · simp only [dif_pos (And.intro hi hj)]
        exact (key i j hi hj).choose_spec.2
      · simp only [dif_pos (And.intro hi hj)]
        rw [← Go.WideShapes.add_plain]
        exact (key i j hi hj).choose_spec.1
end

theorem Recs.mod {w w' : World} {b n m lo hi : Nat} {a : Option Addr} {kd : Nat → IntKind} {f : Nat → Nat → Int} (hm0 : 0 < m) (h : Recs w b a n m kd f) (hm : Mod lo hi w w') (ho : 0 < n → b < lo ∨ hi ≤ b) : Recs w' b a n m kd f := by
  refine ⟨h.1, fun hn => ?_⟩
  obtain ⟨off, e, hc⟩ := h.2 hn
  have hl : b < w.heap.size := World.block_lt_of_cell? w _ (hc 0 0 hn hm0)
  exact ⟨off, e, fun i j hi hj => (World.cell?_of_block (w := w) (hm.block b hl (ho hn))).trans (hc i j hi hj)⟩
theorem Recs.below {w w' : World} {b n m : Nat} {a : Option Addr} {kd : Nat → IntKind} {f : Nat → Nat → Int} (hm0 : 0 < m) (h : Recs w b a n m kd f) (hb : Below w.heap.size w w') : Recs w' b a n m kd f :=
  h.mod hm0 (Mod.of_below (lo := 0) (hi := 0) hb) (fun _ => .inr (Nat.zero_le _))
theorem Recs.lt {w : World} {b n m : Nat} {a : Option Addr} {kd : Nat → IntKind} {f : Nat → Nat → Int} (hm0 : 0 < m) (h : Recs w b a n m kd f) (hn : 0 < n) : b < w.heap.size := by
  obtain ⟨off, e, hc⟩ := h.2 hn
  exact World.block_lt_of_cell? w _ (hc 0 0 hn hm0)
end Go.Proofs.Ytblopfgnhokocaa
