/- PLAIN: what the operations make of one tree, and of all of them: lists of nodes. No program in sight. -/
import Derived.Test.YtblopfgnhokocaaP3
set_option linter.unusedVariables false
set_option linter.unusedSimpArgs false
namespace Go.Proofs.Ytblopfgnhokocaa.P

theorem TrL.far {T T' : Tb} {l : List Nat} {u : Tr} (h : TrL T l u) (hT : ∀ y ∈ l, T' y = T y) : TrL T' l u := by
  have hm : ∀ y ∈ u.nodes, T' y = T y := fun y hy => hT y (h.nodes.mem_iff.2 hy)
  exact ⟨h.1.congr' h.nodup hm, h.2.1, by rw [← h.2.2]; exact seq_congr u false (fun y hy => by show (T' y).turn = _; rw [hm y hy])⟩

/-- What splay makes of a table: x is the root of its tree, without a pending turn; the sequence l is as it was. -/
def SplayTo (T T' : Tb) (l : List Nat) (x : Nat) : Prop := (∃ a b, TrL T' l (.node a x b)) ∧ (T' x).turn = false ∧ (∀ y, (T' y).val = (T y).val) ∧ ∀ y, y ∉ l → T' y = T y

theorem root_seq {T : Tb} {l : List Nat} {a b : Tr} {x : Nat} (h : TrL T l (.node a x b)) (ht : (T x).turn = false) : l = seq (tn T) false a ++ x :: seq (tn T) false b := by
  rw [← h.2.2]
  have : tn T x = false := ht
  simp [seq, this]
theorem root_kids {T : Tb} {l : List Nat} {a b : Tr} {x : Nat} (h : TrL T l (.node a x b)) : (T x).k0 = a.root ∧ (T x).k1 = b.root ∧ (T x).up = 0 ∧ x ≠ 0 ∧ Fit T (T x) l :=
  ⟨h.1.2.2.2.2.1.link, h.1.2.2.2.2.2.link, h.1.2.2.1, h.1.2.1, h.1.2.2.2.1.perm h.nodes.symm⟩
theorem kids_nodup {T : Tb} {l : List Nat} {a b : Tr} {x : Nat} (h : TrL T l (.node a x b)) : a.nodes.Nodup ∧ b.nodes.Nodup ∧ x ∉ a.nodes ∧ x ∉ b.nodes ∧ (∀ y ∈ a.nodes, y ∉ b.nodes) := by
  have nd := h.nodup
  simp only [Tr.nodes, List.nodup_append, List.nodup_cons, List.mem_cons] at nd
  obtain ⟨n1, ⟨n2, n3⟩, n4⟩ := nd
  exact ⟨n1, n3, fun hm => n4 x hm x (.inl rfl) rfl, n2, fun y hy hm => n4 y hy y (.inr hm) rfl⟩
theorem seq_len (τ : Nat → Bool) (f : Bool) (t : Tr) : (seq τ f t).length = t.nodes.length := (seq_perm τ t f).length_eq
theorem size_root {T : Tb} {k p : Nat} {t : Tr} (h : Rep T k p t) (h0 : (T 0).size = 0) : (T k).size = t.nodes.length := by
  cases t with
  | nil => obtain rfl : k = 0 := h; simpa [Tr.nodes] using h0
  | node l x r => obtain ⟨rfl, _, _, hf, _⟩ := h; exact hf.1

/-! ### one tree -/
/-- Set -/
theorem set_tree {T : Tb} {l : List Nat} {a b : Tr} {x : Nat} {v : Int} (h : TrL T l (.node a x b)) :
    let T1 := upd T x { T x with val := v }
    TrL (pull T1 x) l (.node a x b) ∧ Kids T1 x l ∧ (∀ y, y ≠ x → pull T1 x y = T y) ∧ (pull T1 x x).val = v := by
  intro T1
  obtain ⟨n1, n2, n3, n4, n5⟩ := kids_nodup h
  obtain ⟨_, hx, hup, hf, hl, hr⟩ := h.1
  have far : ∀ y, y ≠ x → T1 y = T y := fun y hy => upd_ne hy
  have e : T1 x = { T x with val := v } := upd_same _ _ _
  have la : Rep T1 (T1 x).k0 x a := by rw [e]; exact hl.congr' n1 (fun y hy => far y (fun e => n3 (e ▸ hy)))
  have lb : Rep T1 (T1 x).k1 x b := by rw [e]; exact hr.congr' n2 (fun y hy => far y (fun e => n4 (e ▸ hy)))
  have hp := pull_rep (T := T1) (x := x) (p := 0) hx (by rw [e]; exact hup) h.nodup la lb
  refine ⟨⟨hp, h.2.1, ?_⟩, ⟨a, b, la, lb, n1, n2, fun y hy => ⟨h.nodes.mem_iff.2 (by simp [Tr.nodes, hy]), fun e => n3 (e ▸ hy)⟩, fun y hy => ⟨h.nodes.mem_iff.2 (by simp [Tr.nodes, hy]), fun e => n4 (e ▸ hy)⟩⟩, ?_, ?_⟩
  · rw [← h.2.2]
    refine seq_congr _ _ (fun y _ => ?_)
    show (pull T1 x y).turn = (T y).turn
    rw [pull_turn]
    by_cases e' : y = x
    · subst e'; rw [e]
    · rw [far y e']
  · intro y hy
    rw [show pull T1 x y = T1 y from upd_ne hy, far y hy]
  · rw [pull_val, e]
/-- Reverse -/
theorem turn_tree {T : Tb} {l : List Nat} {a b : Tr} {x : Nat} (h : TrL T l (.node a x b)) (ht : (T x).turn = false) : TrL (upd T x { T x with turn := true }) l.reverse (.node a x b) := by
  obtain ⟨n1, n2, n3, n4, n5⟩ := kids_nodup h
  have e : upd T x { T x with turn := true } x = { T x with turn := true } := upd_same _ _ _
  have far : ∀ y, y ≠ x → upd T x { T x with turn := true } y = T y := fun y hy => upd_ne hy
  refine ⟨?_, (List.reverse_perm l).nodup_iff.2 h.2.1, ?_⟩
  · refine h.1.like (fun y => ?_) h.nodup (fun y _ => ?_) (fun y _ _ => ?_) (fun _ => ?_)
    · by_cases e' : y = x
      · subst e'; rw [e]
      · rw [far y e']
    · by_cases e' : y = x
      · subst e'; rw [e]; exact ⟨rfl, rfl, rfl, rfl, rfl⟩
      · rw [far y e']; exact Like.rfl
    · by_cases e' : y = x
      · subst e'; rw [e]
      · rw [far y e']
    · show (upd T x { T x with turn := true } x).up = 0
      rw [e]; exact h.1.2.2.1
  · have s1 : ∀ f, seq (tn (upd T x { T x with turn := true })) f a = seq (tn T) f a := fun f => seq_congr a f (fun y hy => by
      show (upd T x { T x with turn := true } y).turn = _; rw [far y (fun e => n3 (e ▸ hy))])
    have s2 : ∀ f, seq (tn (upd T x { T x with turn := true })) f b = seq (tn T) f b := fun f => seq_congr b f (fun y hy => by
      show (upd T x { T x with turn := true } y).turn = _; rw [far y (fun e => n4 (e ▸ hy))])
    have f1 := seq_flip (tn T) a false
    have f2 := seq_flip (tn T) b false
    simp only [Bool.not_false] at f1 f2
    have ex : tn (upd T x { T x with turn := true }) x = true := by show (upd T x { T x with turn := true } x).turn = true; rw [e]
    rw [root_seq h ht]
    rw [show seq (tn (upd T x { T x with turn := true })) false (.node a x b) = seq (tn (upd T x { T x with turn := true })) true b ++ x :: seq (tn (upd T x { T x with turn := true })) true a by rw [seq, ex]; simp]
    rw [s1, s2, f1, f2]
    simp
/-- Split: the left child is let go. -/
theorem cut_tree {T : Tb} {l : List Nat} {a b : Tr} {x : Nat} (h : TrL T l (.node a x b)) (ht : (T x).turn = false) (ha : a.root ≠ 0) :
    let T2 := upd (upd T a.root { T a.root with up := 0 }) x { upd T a.root { T a.root with up := 0 } x with k0 := 0 }
    TrL (pull T2 x) (seq (tn T) false a) a ∧ TrL (pull T2 x) (x :: seq (tn T) false b) (.node .nil x b) ∧ Kids T2 x l ∧ (∀ y, (pull T2 x y).val = (T y).val) ∧ ∀ y, y ∉ l → pull T2 x y = T y := by
  intro T2
  obtain ⟨n1, n2, n3, n4, n5⟩ := kids_nodup h
  obtain ⟨_, hx, hup, hf, hl, hr⟩ := h.1
  have hm := Tr.root_mem ha
  have hax : x ≠ a.root := fun e => n3 (by rw [e]; exact hm)
  have ex : T2 x = { T x with k0 := 0 } := by
    show upd (upd T _ _) x _ x = _
    rw [upd_same, upd_ne hax]
  have ea : T2 a.root = { T a.root with up := 0 } := by
    show upd (upd T _ _) x _ a.root = _
    rw [upd_ne (Ne.symm hax), upd_same]
  have far : ∀ y, y ≠ x → y ≠ a.root → T2 y = T y := fun y h1 h2 => by
    show upd (upd T _ _) x _ y = _
    rw [upd_ne h1, upd_ne h2]
  have hv : ∀ y, (T2 y).val = (T y).val := by
    intro y
    by_cases e1 : y = x
    · subst e1; rw [ex]
    · by_cases e2 : y = a.root
      · subst e2; rw [ea]
      · rw [far y e1 e2]
  have htn : ∀ y, (T2 y).turn = (T y).turn := by
    intro y
    by_cases e1 : y = x
    · subst e1; rw [ex]
    · by_cases e2 : y = a.root
      · subst e2; rw [ea]
      · rw [far y e1 e2]
  have sq : ∀ (t : Tr) f, seq (tn (pull T2 x)) f t = seq (tn T) f t := fun t f => seq_congr t f (fun y _ => by
    show (pull T2 x y).turn = (T y).turn; rw [pull_turn, htn])
  have nds := h.2.1
  rw [root_seq h ht, List.nodup_append, List.nodup_cons] at nds
  have ra : Rep T2 a.root 0 a := by
    refine (hl.link ▸ hl : Rep T a.root x a).like hv n1 (fun y hy => ?_) (fun y hy hne => ?_) (fun _ => by rw [ea])
    · by_cases e2 : y = a.root
      · subst e2; rw [ea]; exact ⟨rfl, rfl, rfl, rfl, rfl⟩
      · rw [far y (fun e => n3 (e ▸ hy)) e2]; exact Like.rfl
    · rw [far y (fun e => n3 (e ▸ hy)) hne]
  have rb : Rep T2 (T2 x).k1 x b := by
    rw [ex]
    exact hr.congr' n2 (fun y hy => far y (fun e => n4 (e ▸ hy)) (fun e => n5 _ hm (e ▸ hy)))
  have rn : Rep T2 (T2 x).k0 x .nil := by rw [ex]; rfl
  have inl : ∀ y ∈ b.nodes, y ∈ l ∧ y ≠ x := fun y hy => ⟨h.nodes.mem_iff.2 (by simp [Tr.nodes, hy]), fun e => n4 (e ▸ hy)⟩
  refine ⟨⟨?_, nds.1, sq a false⟩, ⟨?_, List.nodup_cons.2 nds.2.1, ?_⟩, ⟨.nil, b, rn, rb, List.nodup_nil, n2, fun y hy => by simp [Tr.nodes] at hy, inl⟩, fun y => by rw [pull_val, hv], fun y hy => ?_⟩
  · exact ra.congr' n1 (fun y hy => upd_ne (fun e => n3 (e ▸ hy)))
  · refine pull_rep hx (by rw [ex]; exact hup) ?_ rn rb
    simp only [Tr.nodes, List.nil_append]
    exact List.nodup_cons.2 ⟨n4, n2⟩
  · have : tn (pull T2 x) x = false := by show (pull T2 x x).turn = false; rw [pull_turn, htn, ht]
    rw [show seq (tn (pull T2 x)) false (.node .nil x b) = x :: seq (tn (pull T2 x)) false b by rw [seq, this]; simp [seq]]
    rw [sq]
  · have hyl : y ∉ (Tr.node a x b).nodes := fun hm => hy (h.nodes.mem_iff.2 hm)
    simp only [Tr.nodes, List.mem_append, List.mem_cons, not_or] at hyl
    rw [show pull T2 x y = T2 y from upd_ne hyl.2.1]
    exact far y hyl.2.1 (fun e => hyl.1 (e ▸ hm))
/-- Join: x without a right child, y the root of another tree. -/
theorem join_tree {T : Tb} {l m : List Nat} {a c d : Tr} {x y : Nat} (h : TrL T l (.node a x .nil)) (ht : (T x).turn = false) (hm : TrL T m (.node c y d)) (dis : ∀ z ∈ l, z ∉ m) :
    let T2 := upd (upd T x { T x with k1 := y }) y { upd T x { T x with k1 := y } y with up := x }
    TrL (pull T2 x) (l ++ m) (.node a x (.node c y d)) ∧ Kids T2 x (l ++ m) ∧ (∀ z, (pull T2 x z).val = (T z).val) ∧ ∀ z, z ∉ l → z ∉ m → pull T2 x z = T z := by
  intro T2
  obtain ⟨n1, n2, n3, n4, n5⟩ := kids_nodup h
  obtain ⟨_, hx, hup, hf, hl, hr⟩ := h.1
  have hxl : x ∈ l := h.nodes.mem_iff.2 (by simp [Tr.nodes])
  have hym : y ∈ m := hm.nodes.mem_iff.2 (by simp [Tr.nodes])
  have hxy : x ≠ y := fun e => dis x hxl (e ▸ hym)
  have ex : T2 x = { T x with k1 := y } := by show upd (upd T _ _) y _ x = _; rw [upd_ne hxy, upd_same]
  have ey : T2 y = { T y with up := x } := by show upd (upd T _ _) y _ y = _; rw [upd_same, upd_ne (Ne.symm hxy)]
  have far : ∀ z, z ≠ x → z ≠ y → T2 z = T z := fun z h1 h2 => by show upd (upd T _ _) y _ z = _; rw [upd_ne h2, upd_ne h1]
  have hv : ∀ z, (T2 z).val = (T z).val := by
    intro z
    by_cases e1 : z = x
    · subst e1; rw [ex]
    · by_cases e2 : z = y
      · subst e2; rw [ey]
      · rw [far z e1 e2]
  have htn : ∀ z, (T2 z).turn = (T z).turn := by
    intro z
    by_cases e1 : z = x
    · subst e1; rw [ex]
    · by_cases e2 : z = y
      · subst e2; rw [ey]
      · rw [far z e1 e2]
  have sq : ∀ (t : Tr) f, seq (tn (pull T2 x)) f t = seq (tn T) f t := fun t f => seq_congr t f (fun z _ => by
    show (pull T2 x z).turn = (T z).turn; rw [pull_turn, htn])
  have al : ∀ z ∈ a.nodes, z ∈ l := fun z hz => h.nodes.mem_iff.2 (by simp [Tr.nodes, hz])
  have bm : ∀ z ∈ (Tr.node c y d).nodes, z ∈ m := fun z hz => hm.nodes.mem_iff.2 hz
  have ra : Rep T2 (T2 x).k0 x a := by
    rw [ex]
    exact hl.congr' n1 (fun z hz => far z (fun e => n3 (e ▸ hz)) (fun e => dis z (al z hz) (e ▸ hym)))
  have rb : Rep T2 (T2 x).k1 x (.node c y d) := by
    rw [ex]
    refine hm.1.like hv hm.nodup (fun z hz => ?_) (fun z hz hne => ?_) (fun _ => by show (T2 y).up = x; rw [ey])
    · by_cases e2 : z = y
      · subst e2; rw [ey]; exact ⟨rfl, rfl, rfl, rfl, rfl⟩
      · rw [far z (fun e => dis x hxl (e ▸ bm z hz)) e2]; exact Like.rfl
    · rw [far z (fun e => dis x hxl (e ▸ bm z hz)) hne]
  have ndall : (a.nodes ++ x :: (Tr.node c y d).nodes).Nodup := by
    rw [List.nodup_append]
    refine ⟨n1, List.nodup_cons.2 ⟨fun hz => dis x hxl (bm x hz), hm.nodup⟩, fun z hz w hw e => ?_⟩
    subst e
    rcases List.mem_cons.1 hw with rfl | hw
    · exact n3 hz
    · exact dis z (al z hz) (bm z hw)
  refine ⟨⟨pull_rep hx (by rw [ex]; exact hup) ndall ra rb, ?_, ?_⟩, ⟨a, .node c y d, ra, rb, n1, hm.nodup, fun z hz => ⟨List.mem_append_left _ (al z hz), fun e => n3 (e ▸ hz)⟩, fun z hz => ⟨List.mem_append_right _ (bm z hz), fun e => dis x hxl (e ▸ bm z hz)⟩⟩, fun z => by rw [pull_val, hv], fun z h1 h2 => ?_⟩
  · rw [List.nodup_append]
    exact ⟨h.2.1, hm.2.1, fun z hz w hw e => dis z hz (e ▸ hw)⟩
  · have : tn (pull T2 x) x = false := by show (pull T2 x x).turn = false; rw [pull_turn, htn, ht]
    rw [root_seq h ht, ← hm.2.2]
    rw [show seq (tn T) false .nil = [] from by simp [seq]]
    rw [show seq (tn (pull T2 x)) false (.node a x (.node c y d)) = seq (tn (pull T2 x)) false a ++ x :: seq (tn (pull T2 x)) false (.node c y d) by rw [seq, this]; simp]
    rw [sq, sq]
    simp
  · have hzx : z ≠ x := fun e => h1 (e ▸ hxl)
    rw [show pull T2 x z = T2 z from upd_ne hzx]
    exact far z hzx (fun e => h2 (e ▸ hym))
/-- The last of a sequence, at the root: no right child. -/
theorem last_nil {T : Tb} {l : List Nat} {a b : Tr} {x : Nat} (h : TrL T l (.node a x b)) (ht : (T x).turn = false) (hl : l.getLast? = some x) : b = .nil := by
  have e := root_seq h ht
  cases b with
  | nil => rfl
  | node b1 z b2 =>
    exfalso
    have hne : seq (tn T) false (.node b1 z b2) ≠ [] := by
      intro e0; have := seq_len (tn T) false (.node b1 z b2); rw [e0] at this; simp [Tr.nodes] at this
    have nd := h.2.1
    rw [e] at hl nd
    rw [List.getLast?_append, List.getLast?_cons] at hl
    rw [List.nodup_append, List.nodup_cons] at nd
    obtain ⟨q, hq⟩ : ∃ q, (seq (tn T) false (.node b1 z b2)).getLast? = some q := by
      rw [List.getLast?_eq_some_getLast hne]; exact ⟨_, rfl⟩
    rw [hq] at hl
    simp at hl
    subst hl
    exact nd.2.1.1 (List.mem_of_getLast? hq)
/-- Another node than the root has a parent. -/
theorem up_ne {T : Tb} {l : List Nat} {u : Tr} {y : Nat} (h : TrL T l u) (hy : y ∈ l) (hne : y ≠ u.root) : (T y).up ≠ 0 := by
  rcases kid_of_up h.1 y (h.nodes.mem_iff.1 hy) with e | ⟨h1, _⟩
  · exact absurd e hne
  · exact h.1.ne _ h1

/-! ### all trees -/
def up1 (l : List Nat) : List Nat := l.map (· + 1)
theorem mem_up1 {l : List Nat} {y : Nat} : y ∈ up1 l ↔ ∃ x ∈ l, x + 1 = y := by simp [up1]
theorem up1_mem {l : List Nat} {x : Nat} : x + 1 ∈ up1 l ↔ x ∈ l := by simp [up1]
/-- The sequences L of n nodes, in a table. -/
def FOK (T : Tb) (n : Nat) (L : List (List Nat)) : Prop := (∀ l ∈ L, l ≠ [] ∧ ∃ u, TrL T (up1 l) u) ∧ L.flatten.Perm (List.range n) ∧ (T 0).size = 0

theorem FOK.perm {T : Tb} {n : Nat} {L L' : List (List Nat)} (h : FOK T n L) (p : L.Perm L') : FOK T n L' :=
  ⟨fun l hl => h.1 l (p.mem_iff.2 hl), p.symm.flatten.trans h.2.1, h.2.2⟩
theorem FOK.nodup {T : Tb} {n : Nat} {L : List (List Nat)} (h : FOK T n L) : L.flatten.Nodup := h.2.1.symm.nodup_iff.1 List.nodup_range
theorem FOK.lt {T : Tb} {n : Nat} {L : List (List Nat)} (h : FOK T n L) {l : List Nat} (hl : l ∈ L) {x : Nat} (hx : x ∈ l) : x < n := by
  have := h.2.1.mem_iff.1 (List.mem_flatten.2 ⟨l, hl, hx⟩)
  simpa using this
/-- Some sequences are replaced, the others stay. -/
theorem FOK.change {T T' : Tb} {n : Nat} {L A B R : List (List Nat)} (h : FOK T n L) (p : L.Perm (A ++ R)) (hB : ∀ l ∈ B, l ≠ [] ∧ ∃ u, TrL T' (up1 l) u) (pf : B.flatten.Perm A.flatten) (far : ∀ y, y ∉ up1 A.flatten → T' y = T y) : FOK T' n (B ++ R) := by
  have h' := h.perm p
  have nd := h'.nodup
  rw [List.flatten_append, List.nodup_append] at nd
  refine ⟨fun l hl => ?_, ?_, ?_⟩
  · rcases List.mem_append.1 hl with hl | hl
    · exact hB l hl
    · obtain ⟨h1, u, hu⟩ := h'.1 l (List.mem_append_right _ hl)
      refine ⟨h1, u, hu.far (fun y hy => far y (fun hm => ?_))⟩
      obtain ⟨x, hx, rfl⟩ := mem_up1.1 hy
      exact nd.2.2 x (up1_mem.1 hm) x (List.mem_flatten.2 ⟨l, hl, hx⟩) rfl
  · rw [List.flatten_append]
    refine (pf.append_right _).trans ?_
    rw [← List.flatten_append]
    exact h'.2.1
  · rw [far 0 (fun hm => by obtain ⟨x, _, e⟩ := mem_up1.1 hm; omega)]; exact h.2.2
end Go.Proofs.Ytblopfgnhokocaa.P
