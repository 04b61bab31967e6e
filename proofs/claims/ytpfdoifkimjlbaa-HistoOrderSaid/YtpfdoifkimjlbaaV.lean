/- slices.Delete of one number; and the contract of package histo's Coarse. -/
import Derived.Test.YtpfdoifkimjlbaaQ
import Derived.Deep.RegionLaw
import Derived.Deep.Upon
import Derived.Laws.IdiomCopy
import Derived.Lib.SliceRun
set_option linter.unusedVariables false
set_option linter.unusedSimpArgs false
namespace Go.Proofs.Ytpfdoifkimjlbaa
open Go.RowKit H M

def splice (cs : List Value) (o : Nat) (vs : List Value) : List Value := cs.take o ++ vs ++ cs.drop (o + vs.length)
theorem splice_cons (cs : List Value) (o : Nat) (v : Value) (vs : List Value) (h : o < cs.length) : splice (cs.set o v) (o + 1) vs = splice cs o (v :: vs) := by
  have e1 : (cs.set o v).take (o + 1) = cs.take o ++ [v] := by
    apply List.ext_getElem?
    intro i
    rcases Nat.lt_trichotomy i o with hi | hi | hi
    · simp [List.getElem?_take, List.getElem?_set, List.getElem?_append, List.length_take, hi, show i < o + 1 by omega, show ¬ o = i by omega, show i < min o cs.length by omega]
    · subst hi
      simp [List.getElem?_take, List.getElem?_set, List.getElem?_append, List.length_take, h, show min i cs.length = i by omega]
    · simp [List.getElem?_take, List.getElem?_append, List.length_take, show ¬ i < o + 1 by omega, show ¬ i < o by omega, show ¬ i < min o cs.length by omega, show min o cs.length = o by omega]
  have e2 : (cs.set o v).drop (o + 1 + vs.length) = cs.drop (o + 1 + vs.length) := by
    apply List.ext_getElem?
    intro i
    simp [List.getElem?_drop, List.getElem?_set, show ¬ o = o + 1 + vs.length + i by omega]
  unfold splice
  rw [e1, e2, List.length_cons, show o + (vs.length + 1) = o + 1 + vs.length by omega]
  simp
theorem Bk.setCells {g : Nat} {t : TypeId} : ∀ (vs : List Value) (o : Nat) (w : World) (cs : List Value), o + vs.length ≤ cs.length → Bk w g t cs → Bk (w.setCells g o vs) g t (splice cs o vs)
  | [], o, w, cs, _, h => by simpa [splice, World.setCells] using h
  | v :: vs, o, w, cs, hl, h => by
    rw [← splice_cons cs o v vs (by simp at hl; omega)]
    exact Bk.setCells vs (o + 1) _ _ (by simp at hl ⊢; omega) (h.set o v)
theorem Mod.setCells {g : Nat} : ∀ (vs : List Value) (o : Nat) (w : World), Mod g (g + 1) w (w.setCells g o vs)
  | [], o, w => Mod.refl _ _ _
  | v :: vs, o, w => (Mod.set (p := ⟨g, o, none⟩) (Mod.refl g (g + 1) w) (.inl ⟨Nat.le_refl _, Nat.lt_succ_self _⟩) v).trans (Mod.setCells vs (o + 1) _)

namespace H
def coE : St → Int → Int
  | none, _ => 1
  | some (B, C), b => if b < 0 ∨ (B.length : Int) ≤ b then 3 else 0
def coC (C : List Int) (k : Nat) : List Int := (C.set k (C.getD k 0 + C.getD (k + 1) 0)).eraseIdx (k + 1)
def coS : St → Int → St
  | none, _ => none
  | some (B, C), b => if b < 0 ∨ (B.length : Int) ≤ b then none else some (B.eraseIdx b.toNat, coC C b.toNat)
theorem erase_getD {l : List Int} {k i : Nat} (h : i < l.length - 1) (hk : k < l.length) : (l.eraseIdx k).getD i 0 = if i < k then l.getD i 0 else l.getD (i + 1) 0 := by
  rw [List.getD_eq_getElem?_getD, List.getElem?_eraseIdx]
  split <;> rw [List.getD_eq_getElem?_getD]
theorem sum_erase {l : List Int} {k : Nat} (hk : k < l.length) : (l.eraseIdx k).sum = l.sum - l.getD k 0 := by
  induction l generalizing k with
  | nil => simp at hk
  | cons a l ih =>
    rcases k with _ | k
    · simp [List.getD_eq_getElem?_getD]; omega
    · have := ih (k := k) (by simpa using hk)
      simp only [List.eraseIdx_cons_succ, List.sum_cons, this]
      simp only [List.getD_eq_getElem?_getD, List.getElem?_cons_succ]; omega
theorem getD_set_ne {l : List Int} {i j : Nat} {v : Int} (h : i ≠ j) : (l.set i v).getD j 0 = l.getD j 0 := by simp [List.getD_eq_getElem?_getD, List.getElem?_set_ne h]
theorem coC_len {C : List Int} {k : Nat} (hk : k + 1 < C.length) : (coC C k).length = C.length - 1 := by
  unfold coC; rw [List.length_eraseIdx, List.length_set, if_pos hk]
theorem coC_sum {C : List Int} {k : Nat} (hk : k + 1 < C.length) : (coC C k).sum = C.sum := by
  unfold coC
  rw [sum_erase (by simpa using hk), sum_set _ _ _ (by omega), getD_set_ne (by omega)]; omega
theorem fine_co {B C : List Int} (g : Fine B C) {k : Nat} (hk : k < B.length) : Fine (B.eraseIdx k) (coC C k) := by
  have hl := g.len
  refine ⟨fun i hi => ?_, fun x hx => g.rng x (List.mem_of_mem_eraseIdx hx), ?_, fun x hx => ?_, by rw [coC_sum (by omega)]; exact g.sum, ?_⟩
  · rw [List.length_eraseIdx, if_pos hk] at hi
    rw [erase_getD (by omega) hk, erase_getD (by omega) hk]
    split <;> split
    · exact up_lt' g.up (by omega) (by omega)
    · exact up_lt' g.up (by omega) (by omega)
    · omega
    · exact up_lt' g.up (by omega) (by omega)
  · rw [coC_len (by omega), List.length_eraseIdx, if_pos hk]; omega
  · have hx := List.mem_of_mem_eraseIdx hx
    rcases List.mem_or_eq_of_mem_set hx with hx | rfl
    · exact g.pos x hx
    · have := getD_nonneg g.pos k; have := getD_nonneg g.pos (k + 1); omega
  · have := g.size
    rw [List.length_eraseIdx, if_pos hk]; omega
theorem ok_co {o : St} (h : Ok o) (b : Int) : Ok (coS o b) := by
  rcases o with _ | ⟨B, C⟩
  · trivial
  · simp only [coS]
    split
    · trivial
    · exact fine_co h (by omega)
end H

set_option maxHeartbeats 1600000 in
set_option maxRecDepth 100000 in
theorem delete_any {w : World} {cb cap : Nat} {l : List Int} {ex : List Value} {i : Nat} (h : Bk w cb 2 (l.map (Value.int .i64) ++ ex)) (hc : cap = l.length + ex.length) (hi : i < l.length) (hm : l.length ≤ 1000000) :
    Calls Try.prog 51 #[.slice (some ⟨cb, 0, none⟩) l.length cap, .int .i64 i, .int .i64 ((i : Int) + 1)] w fun e w' => e = .returned (.slice (some ⟨cb, 0, none⟩) (l.length - 1) cap) ∧ Bk w' cb 2 ((l.eraseIdx i).map (Value.int .i64) ++ (.int .i64 0 :: ex)) ∧ Mod cb (cb + 1) w w' := by
  obtain ⟨i0, hi0, hz0, hz1, hz2⟩ := info_parts info2
  obtain ⟨n, hn⟩ : ∃ n, l.length = n := ⟨_, rfl⟩
  have HB := Lib.hid h
  have HN := Lib.hid hn
  have HCAP : Hid (cap = l.length + ex.length) := hc
  rw [hn] at hi hm hc ⊢
  have hle : n ≤ cap := by omega
  obtain ⟨news, hnw⟩ : ∃ news, (l.drop (i + 1)).map (Value.int .i64) = news := ⟨_, rfl⟩
  have nl : news.length = n - (i + 1) := by rw [← hnw]; simp [hn]
  have cell : ∀ j, j < n → w.cell? ⟨cb, j, none⟩ = some (.int .i64 (l.getD j 0)) := by
    intro j hj
    rw [h.cell, List.getElem?_append_left (by simp [hn]; omega)]
    simp [List.getD_eq_getElem?_getD, List.getElem?_eq_getElem (show j < l.length by omega)]
  have nat : ∀ j, j < n - (i + 1) → news[j]? = some (.int .i64 (l.getD (i + 1 + j) 0)) := by
    intro j hj
    rw [← hnw]
    simp [List.getElem?_drop, List.getD_eq_getElem?_getD, List.getElem?_eq_getElem (show i + 1 + j < l.length by omega)]
  obtain ⟨A, hA, hnews⟩ : ∃ A : Addr, (if cap = i + 1 then some (⟨cb, 0, none⟩ : Addr) else some ⟨cb, i + 1, none⟩) = some A ∧ Hid (∀ j u, news[j]? = some u → w.drew.cell? (A.add j) = some u) := by
    by_cases hcap : cap = i + 1
    · refine ⟨⟨cb, 0, none⟩, by simp [hcap], fun j u hu => ?_⟩
      have := (List.getElem?_eq_some_iff.1 hu).1
      omega
    · refine ⟨⟨cb, i + 1, none⟩, by simp [hcap], fun j u hu => ?_⟩
      have hj := (List.getElem?_eq_some_iff.1 hu).1
      rw [nl] at hj
      rw [nat j hj] at hu
      rw [Addr.add_lit]
      exact (cell (i + 1 + j) (by omega)).trans hu
  have s1 : Hid (news.length = (n - (i + 1)) * 1) := by rw [Nat.mul_one]; exact nl
  have s2 : Hid (∀ u ∈ news, u.oneCell' = true) := by rw [← hnw]; exact ints_one
  have s3 : Hid (∀ j, j < news.length → (w.drew.cell? ⟨cb, 0 + i * 1 + j, none⟩).isSome = true ∧ w.drew.frozen? ⟨cb, 0 + i * 1 + j, none⟩ = false) := by
    intro j hj
    rw [nl] at hj
    rw [Nat.mul_one, Nat.zero_add]
    exact ⟨by show (w.cell? _).isSome = true; rw [cell (i + j) (by omega)]; rfl, h.frozen _⟩
  have hW : Hid (Bk (w.drew.setCells cb i news) cb 2 ((l.eraseIdx i).map (Value.int .i64) ++ (.int .i64 (l.getD (n - 1) 0) :: ex))) := by
    have := Bk.setCells news i w.drew _ (by simp [nl, hn]; omega) h
    rw [show splice (l.map (Value.int .i64) ++ ex) i news = (l.eraseIdx i).map (Value.int .i64) ++ (.int .i64 (l.getD (n - 1) 0) :: ex) by
      unfold splice
      rw [nl, show i + (n - (i + 1)) = n - 1 by omega, List.take_append_of_le_length (by simp [hn]; omega), List.drop_append_of_le_length (by simp [hn]),
        List.eraseIdx_eq_take_drop_succ, List.map_append, List.map_take, hnw]
      have : (l.map (Value.int .i64)).drop (n - 1) = [.int .i64 (l.getD (n - 1) 0)] := by
        rw [List.drop_eq_getElem_cons (by simp [hn]; omega), List.drop_eq_nil_of_le (by simp [hn]; omega)]
        simp [List.getD_eq_getElem?_getD, List.getElem?_eq_getElem (show n - 1 < l.length by omega)]
      rw [this]; simp] at this
    exact this
  have hM : Hid (Mod cb (cb + 1) w (w.drew.setCells cb i news)) := (Mod.refl cb (cb + 1) w).drew.trans (Mod.setCells news i w.drew)
  have hic : i ≤ cap := by omega
  have hp0 : (0 : Int) ≤ (i : Int) + 1 := by omega
  have hp1 : (i : Int) + 1 ≤ (n : Int) := by omega
  have hp2 : ((i : Int) + 1).toNat = i + 1 := by omega
  have hne : ((i : Int) == (i : Int) + 1) = false := by simp; omega
  clear h hn hc cell nat hnw nl
  go_enter Try.func51, Try.ntmps51
  go_wp2_with fail
  go_region_law (refine step_append_room rfl (.tmp 22) (.tmp 25) 22 rfl 2 i0 1 Try.underlying22 hi0 hz1 cb 0 i cap (by simp [Act.eval, Act.put]) A (n - (i + 1)) (cap - (i + 1)) news (by simp [Act.eval, Act.put]) s1.out hnews.out s2.out (by omega) s3.out ?_)
  obtain ⟨W, hWW⟩ : ∃ W, w.drew.setCells cb i news = W := ⟨_, rfl⟩
  (try simp only [Nat.zero_add, Nat.mul_one])
  rw [hWW]
  rw [hWW] at hW hM
  have e1 : i + (n - (i + 1)) = n - 1 := by omega
  rw [e1]
  obtain ⟨N, hN1⟩ : ∃ N, n - 1 = N := ⟨_, rfl⟩
  rw [hN1] at hW ⊢
  have hNn : n = N + 1 := by omega
  have hclr : ∀ ty c, (Builtin.clear_ #[22] ty #[.slice (some ⟨cb, N, none⟩) 1 c]).run Try.prog W = .ok (.tuple #[]) (W.setCell ⟨cb, N, none⟩ (.int .i64 0)) := fun ty c =>
    Lib.run_clear_slice W 22 2 ty (.int .i64 0) Try.underlying22 Try.zeroValue2 rfl rfl cb N 1 c (by decide)
      (fun j hj => by
        obtain rfl : j = 0 := by omega
        rw [hW.out.cell, List.getElem?_append_right (by simp [List.length_eraseIdx, HN.out]; split <;> omega)]
        rw [show N + 0 - ((l.eraseIdx i).map (Value.int .i64)).length = 0 by rw [List.length_map, List.length_eraseIdx, if_pos (by rw [HN.out]; exact hi), HN.out]; omega]
        rfl) (fun j _ => hW.out.frozen _)
  have FIN : Hid (Bk (W.setCell ⟨cb, N, none⟩ (.int .i64 0)) cb 2 ((l.eraseIdx i).map (Value.int .i64) ++ (.int .i64 0 :: ex)) ∧ Mod cb (cb + 1) w (W.setCell ⟨cb, N, none⟩ (.int .i64 0))) := by
    refine ⟨?_, hM.out.trans (Mod.set (p := ⟨cb, N, none⟩) (Mod.refl cb (cb + 1) W) (.inl ⟨Nat.le_refl _, Nat.lt_succ_self _⟩) _)⟩
    have := hW.out.set N (.int .i64 0)
    have hlen : ((l.eraseIdx i).map (Value.int .i64)).length = N := by rw [List.length_map, List.length_eraseIdx, if_pos (by rw [HN.out]; exact hi), HN.out]; omega
    rw [List.set_append_right _ _ (by omega), hlen, Nat.sub_self] at this
    exact this
  go_wp2
  go_ret
  exact ⟨by show Ending.returned (Value.slice _ N cap) = _; rw [hN1], FIN.out.1, FIN.out.2⟩
theorem delete_at {w : World} {cb cap : Nat} {l : List Int} {ex : List Value} (i : Nat) (z1 z2 : Int) (h1 : (i : Int) = z1) (h2 : (i : Int) + 1 = z2) (h : Bk w cb 2 (l.map (Value.int .i64) ++ ex)) (hc : cap = l.length + ex.length) (hi : i < l.length) (hm : l.length ≤ 1000000) :
    Calls Try.prog 51 #[.slice (some ⟨cb, 0, none⟩) l.length cap, .int .i64 z1, .int .i64 z2] w fun e w' => e = .returned (.slice (some ⟨cb, 0, none⟩) (l.length - 1) cap) ∧ Bk w' cb 2 ((l.eraseIdx i).map (Value.int .i64) ++ (.int .i64 0 :: ex)) ∧ Mod cb (cb + 1) w w' := by
  subst h1 h2
  exact delete_any h hc hi hm
end Go.Proofs.Ytpfdoifkimjlbaa
