/- THE CONTRACT of package splay's splay. -/
import Derived.Test.YtblopfgnhokocaaP5
import Derived.Maps.AppendAt
namespace Go.Proofs.Ytblopfgnhokocaa
open Go.RowKit Go.Shelf P Rng
set_option linter.unusedVariables false
set_option linter.unusedSimpArgs false
attribute [local go_sem] Oper.semAt_some

theorem info21 : (Try.prog.info? 21).map (fun i => (i.zero, i.size, i.bytes)) = some (some (.int .i32 0), 1, 4) := by kernel_rfl

theorem grown_sd (W : World) (b : Nat) (v : Value) : W.grownBy (W.setCell ⟨b, 0, none⟩ v).drew (some b) :=
  ⟨rfl, rfl, rfl, (KeepsWalks.setCell W ⟨b, 0, none⟩ v).size, fun k _ hk => Below.heap_setCell _ _ _ k (fun e => hk (by rw [e]))⟩
theorem col {W w1 : World} {B : Nat} {v v' : Value} {k m : Nat} {xs ys : List Value} {tmp : Obj} (hv : Boxed W B 72 v) (hrow : W.ownsRow (B + 3) 21 1 v k xs) (hsz : B + 3 ≤ W.heap.size) (hown' : w1.ownsRow (B + 3) 21 1 v' m ys) (hgrow : (W.alloc tmp).grownBy w1 v.ownBlock) :
    Boxed w1 B 72 v ∧ Boxed (w1.setCell ⟨B, 0, none⟩ v') B 72 v' ∧ (w1.setCell ⟨B, 0, none⟩ v').ownsRow (B + 3) 21 1 v' m ys ∧ KeepsOthers W (w1.setCell ⟨B, 0, none⟩ v') ∧ Below B W (w1.setCell ⟨B, 0, none⟩ v') ∧ (∀ i, i < B + 3 → i ≠ B → (w1.setCell ⟨B, 0, none⟩ v').heap[i]? = W.heap[i]?) ∧ B + 3 ≤ (w1.setCell ⟨B, 0, none⟩ v').heap.size := by
  have hv1 : Boxed w1 B 72 v := (hv.alloc tmp).kept hgrow (hv.not_row (by decide) hrow)
  have hrb : ∀ j, v.ownBlock = some j → B + 3 ≤ j := by
    intro j ej
    rcases hrow.2 with ⟨rfl, _⟩ | ⟨g, cap, cur, rfl, hb, _, _⟩
    · simp [Value.ownBlock] at ej
    · obtain rfl : g = j := by simpa [Value.ownBlock] using ej
      exact hb
  refine ⟨hv1, hv1.set v', hown'.kept (grownBy_setCell' w1 B v') (.inr (hv1.not_row (by decide) hown').symm), ?_, ?_, fun i hi hne => ?_, ?_⟩
  · refine ((KeepsOthers.alloc W tmp).trans (KeepsOthers.of_grownBy hgrow fun j o ej hj => ?_)).trans (KeepsOthers.setCell _ _ _)
    rcases (hrow.alloc tmp).2 with ⟨rfl, _⟩ | ⟨g, cap, cur, rfl, _, hgb, _⟩
    · simp [Value.ownBlock] at ej
    · obtain rfl : g = j := by simpa [Value.ownBlock] using ej
      rw [hgb] at hj; cases hj; rfl
  · exact (((Below.refl B W).alloc (by omega) tmp).grown hgrow (by simp; omega) fun j ej => by have := hrb j ej; omega).setCell (p := ⟨B, 0, none⟩) (Nat.le_refl _) v'
  · rw [Below.heap_setCell _ _ _ i (by exact hne), hgrow.block i (by simp; omega) (fun e => by have := hrb i e.symm; omega), Below.heap_alloc W tmp i (by omega)]
  · have := hgrow.size
    have e := (KeepsWalks.setCell w1 ⟨B, 0, none⟩ v').size
    simp at this
    omega
theorem cn_sub : ∀ c : List Fr, (c.map Fr.p).Sublist (cn c) := by
  intro c
  induction c with
  | nil => exact List.Sublist.slnil
  | cons f c ih =>
    show (f.p :: c.map Fr.p).Sublist ((f.p :: f.s.nodes) ++ cn c)
    rw [List.cons_append]
    exact (ih.trans (List.sublist_append_right _ _)).cons_cons _
theorem plug_root : ∀ (c : List Fr) (t : Tr), (plug c t).root = (t.root :: c.map Fr.p).getD c.length 0 := by
  intro c
  induction c with
  | nil => intro t; rfl
  | cons f c ih =>
    intro t
    show (plug c (mk f t)).root = _
    rw [ih, mk_root]
    simp
theorem road_at {T : Tb} : ∀ (A : List Nat) (x i : Nat), Road T x A → i + 1 < A.length → (T (A.getD i 0)).up = A.getD (i + 1) 0 := by
  intro A
  induction A with
  | nil => intro x i _ h; simp at h
  | cons y A ih =>
    intro x i h hi
    obtain ⟨rfl, _, hr⟩ := h
    cases i with
    | zero =>
      cases A with
      | nil => simp at hi
      | cons z A => obtain ⟨e, _⟩ := hr; simpa using e
    | succ i =>
      have := ih _ i hr (by simpa using hi)
      simpa using this
/-- The nodes A of the road are pushed from the root on; j of them are to come. -/
def PS (T : Tb) (L A : List Nat) (x j : Nat) (T1 : Tb) : Prop :=
  ∃ c t, TrL T1 L (plug c t) ∧ Un T1 c ∧ (∀ y, (T1 y).val = (T y).val) ∧ (∀ y, (T1 y).up = (T y).up) ∧ (∀ y, y ∉ L → T1 y = T y) ∧ (j = 0 → t.root = x ∧ (T1 x).turn = false) ∧ (0 < j → t.root = A.getD (j - 1) 0)
theorem ps_step {T T1 : Tb} {L A : List Nat} {x j : Nat} (h : PS T L A x (j + 1) T1) (hA : Road T x A) (hAL : ∀ y ∈ A, y ∈ L) (hj : j < A.length) : PS T L A x j (push T1 (A.getD j 0)) := by
  obtain ⟨c, t, h1, h2, h3, h4, h5, -, h7⟩ := h
  have ht := h7 (by omega)
  simp only [Nat.add_sub_cancel] at ht
  have hy : A.getD j 0 ∈ A := by rw [List.getD_eq_getElem?_getD, List.getElem?_eq_getElem hj]; exact List.getElem_mem hj
  have hy0 : A.getD j 0 ≠ 0 := h1.ne (hAL _ hy)
  obtain ⟨y, hye⟩ : ∃ y, A.getD j 0 = y := ⟨_, rfl⟩
  rw [hye] at ht hy hy0 ⊢
  cases t with
  | nil => exact absurd ht.symm hy0
  | node l z r =>
    obtain rfl : z = y := ht
    obtain ⟨q1, q2, q3, q4⟩ := push_rep h1
    have hun : Un (push T1 z) c := fun f hf => by
      rw [q3 f.p (List.mem_flatMap.2 ⟨f, hf, by simp⟩)]; exact h2 f hf
    have hv : ∀ y, (push T1 z y).val = (T y).val := fun y => by rw [push_val, h3]
    have hu : ∀ y, (push T1 z y).up = (T y).up := fun y => by rw [push_up, h4]
    have hf : ∀ y, y ∉ L → push T1 z y = T y := fun y hy => by rw [q4 y hy, h5 y hy]
    cases j with
    | zero =>
      have hx : x = z := by
        cases A with
        | nil => simp at hj
        | cons a A => obtain ⟨rfl, _, _⟩ := hA; simpa using hye
      subst hx
      exact ⟨c, _, q1, hun, hv, hu, hf, fun _ => ⟨pushT_root _ _ _ _, q2⟩, fun h => absurd h (by omega)⟩
    | succ j =>
      obtain ⟨l', r', e⟩ := pushT_form T1 l z r
      rw [e] at q1
      have hz' : A.getD j 0 ∈ A := by rw [List.getD_eq_getElem?_getD, List.getElem?_eq_getElem (by omega)]; exact List.getElem_mem _
      have hup : (push T1 z (A.getD j 0)).up = z := by rw [hu, road_at A x j hA hj, hye]
      obtain ⟨f, t2, e2, e3, e4⟩ := descend q1 (hAL _ hz') hup hy0
      refine ⟨f :: c, t2, by rw [e2]; exact q1, ?_, hv, hu, hf, fun h => absurd h (by omega), fun _ => by simpa using e4⟩
      intro f' hf'
      rcases List.mem_cons.1 hf' with rfl | hf'
      · rw [e3]; exact q2
      · exact hun f' hf'
/-- While x goes up: its place. -/
structure SS (T : Tb) (L : List Nat) (x : Nat) (c : List Fr) (t : Tr) (T1 : Tb) : Prop where
  tr : TrL T1 L (plug c t)
  un : Un T1 c
  val : ∀ y, (T1 y).val = (T y).val
  far : ∀ y, y ∉ L → T1 y = T y
  root : t.root = x
  turn : (T1 x).turn = false
theorem ss_rot {T T1 : Tb} {L : List Nat} {x n : Nat} {f : Fr} {c : List Fr} {t : Tr} (h : SS T L x (f :: c) t T1) (hx : x ≠ 0) (hL : Bd n L) (hn : n ≤ 65536) (hv : ∀ y ∈ L, In64 (T y).val) :
    (∃ i, RotOK T1 n x f.p (par c) i f.b) ∧ ∃ t', SS T L x c t' (rot T1 x) := by
  cases t with
  | nil => exact absurd h.root.symm hx
  | node l z r =>
    obtain rfl : z = x := h.root
    have hp := h.un f (by simp)
    refine ⟨⟨_, rotOK_of h.tr h.turn hp hL hn (fun y hy => by rw [h.val]; exact hv y hy)⟩, rotT f l z r, ?_⟩
    obtain ⟨s1, _, _, s4⟩ := rot_step h.tr h.turn hp
    exact ⟨s1, fun g hg => by rw [rot_turn]; exact h.un g (by simp [hg]), fun y => by rw [rot_val, h.val], fun y hy => by rw [s4 y hy, h.far y hy], rotT_root _ _ _ _, by rw [rot_turn]; exact h.turn⟩
theorem ss_par {T T1 : Tb} {L : List Nat} {x n : Nat} {f f2 : Fr} {c : List Fr} {t : Tr} (h : SS T L x (f :: f2 :: c) t T1) (hb : f.b = f2.b) (hL : Bd n L) (hn : n ≤ 65536) (hv : ∀ y ∈ L, In64 (T y).val) :
    (∃ i, RotOK T1 n f.p f2.p (par c) i f2.b) ∧ ∃ f', f'.p = f.p ∧ SS T L x (f' :: c) t (rot T1 f.p) := by
  have hp := h.un f (by simp)
  have hg := h.un f2 (by simp)
  have ok : RotOK T1 n f.p f2.p (par c) ((T1 f.p).kid (!f2.b)) f2.b := by
    have h' : TrL T1 L (plug (f2 :: c) (mk f t)) := h.tr
    have hv' : ∀ y ∈ L, In64 (T1 y).val := fun y hy => by rw [h.val]; exact hv y hy
    unfold mk at h'
    cases e : f.b with
    | true => rw [e] at h'; exact rotOK_of h' hp hg hL hn hv'
    | false => rw [e] at h'; exact rotOK_of h' hp hg hL hn hv'
  obtain ⟨s', s1, _, _, s4⟩ := rot_par h.tr hb hp hg
  refine ⟨⟨_, ok⟩, ⟨f.b, f.p, s'⟩, rfl, s1, ?_, fun y => by rw [rot_val, h.val], fun y hy => by rw [s4 y hy, h.far y hy], h.root, by rw [rot_turn]; exact h.turn⟩
  intro g' hg'
  rcases List.mem_cons.1 hg' with rfl | hg'
  · rw [rot_turn]; exact hp
  · rw [rot_turn]; exact h.un g' (by simp [hg'])
theorem Mod.putObj {lo hi : Nat} {a b : World} (h : Mod lo hi a b) {D : Nat} (hD : a.heap.size ≤ D) (o : Obj) : Mod lo hi a (b.putObj D o) :=
  ⟨h.os, h.tape, h.output, by rw [World.putObj_size]; exact h.size, fun k hk ho => (World.putObj_heap_other (by omega)).trans (h.block k hk ho)⟩
theorem side_ne {a b : Bool} (h : ¬ a = b) : ((if b = true then (1 : Int) else 0) == (if a = true then 1 else 0)) = false := by
  cases a <;> cases b <;> simp_all
theorem path_any (ob x : Nat) (w : World) : Calls Try.prog 54 #[.pointer (some ⟨ob, 0, none⟩), .int .i32 x] w fun e w' =>
    e = .returned (.func (.func 60) #[] #[.pointer (some ⟨w.heap.size + 1, 0, none⟩), .pointer (some ⟨w.heap.size, 0, none⟩)]) ∧ (w.alloc (.cells #[.pointer (some ⟨ob, 0, none⟩)] 23)).alloc (.cells #[.int .i32 x] 21) = w' := by
  go_enter Try.func54, Try.ntmps54
  go_wp2
  go_ret
  exact ⟨rfl, rfl⟩

set_option maxRecDepth 100000 in
set_option maxHeartbeats 2000000 in
theorem splay_any {w : World} {ob g n cap : Nat} {T : Tb} {L : List Nat} {u : Tr} (hO : Ob w ob g n cap) (hT : Tab w g n T) (hpg : ob ≠ g) (hn : n ≤ 65536) (h : TrL T L u) (hL : Bd n L) (hv : ∀ y ∈ L, In64 (T y).val) (x : Nat) (hx : x ∈ L) :
    Calls Try.prog 39 #[.pointer (some ⟨ob, 0, none⟩), .int .i32 x] w fun e w' => e = .returned (.tuple #[]) ∧ ∃ T', Tab w' g n T' ∧ Mod g (g + 1) w w' ∧ SplayTo T T' L x := by
  obtain ⟨c, l, r, rfl⟩ := place (h.nodes.mem_iff.1 hx)
  have hxn := hL x hx
  have hx0 := h.ne hx
  have hroad : Road T x (x :: c.map Fr.p) := road_plug c (.node l x r) h hx0
  obtain ⟨A, hA⟩ : ∃ A, x :: c.map Fr.p = A := ⟨_, rfl⟩
  rw [hA] at hroad
  have hAn : ∀ y ∈ A, y ≤ n := by
    intro y hy
    rw [← hA] at hy
    rcases List.mem_cons.1 hy with rfl | hy
    · exact hxn
    · obtain ⟨f, hf, rfl⟩ := List.mem_map.1 hy
      exact hL _ (in_L h (.inl (List.mem_flatMap.2 ⟨f, hf, by simp⟩)))
  have hAl : A.length ≤ n := by
    refine nodup_len n A ?_ (fun y hy => ⟨Nat.pos_of_ne_zero ?_, hAn y hy⟩)
    · rw [← hA]
      have nd := (plug_nodes c (.node l x r)).nodup_iff.1 h.nodup
      rw [List.nodup_append] at nd
      refine List.nodup_cons.2 ⟨fun hm => nd.2.2 x ((cn_sub c).subset hm) x (by simp [Tr.nodes]) rfl, nd.1.sublist (cn_sub c)⟩
    · rw [← hA] at hy
      rcases List.mem_cons.1 hy with rfl | hy
      · exact hx0
      · obtain ⟨f, hf, rfl⟩ := List.mem_map.1 hy
        exact h.ne (in_L h (.inl (List.mem_flatMap.2 ⟨f, hf, by simp⟩)))
  have og := World.block_lt_of_cell? w _ hO.1
  have gg := hT.lt
  refine (callsIn_wide (n := 0)).1 (callsIn_of_wp_marks Try.func39 rfl trivial ?_)
  simp only [Try.ntmps39, List.size_toArray, List.length_cons, List.length_nil, Nat.reduceAdd, Nat.reduceSub, Array.replicate_succ, Array.replicate_zero, List.push_toArray, List.append_toArray, List.nil_append, List.cons_append]
  refine wpIn_wide.2 ?_
  go_wp2_with fail
  refine (path_any ob x _).mono ?_
  rintro e w' ⟨rfl, rfl⟩
  go_wp2_with fail
  have bA : Boxed (((w.alloc (.cells #[.slice none 0 0] 72)).alloc (.cells #[.pointer (some ⟨ob, 0, none⟩)] 23)).alloc (.cells #[.int .i32 x] 21)) w.heap.size 72 (.slice none 0 0) := ((Boxed.new w 72 (.slice none 0 0)).alloc _).alloc _
  have bS : Bk (((w.alloc (.cells #[.slice none 0 0] 72)).alloc (.cells #[.pointer (some ⟨ob, 0, none⟩)] 23)).alloc (.cells #[.int .i32 x] 21)) (w.heap.size + 1) 23 [.pointer (some ⟨ob, 0, none⟩)] := Bk.alloc (Bk.new' (by simp)) _
  have bX : Bk (((w.alloc (.cells #[.slice none 0 0] 72)).alloc (.cells #[.pointer (some ⟨ob, 0, none⟩)] 23)).alloc (.cells #[.int .i32 x] 21)) (w.heap.size + 1 + 1) 21 [.int .i32 x] := Bk.new' (by simp)
  have bel0 : Below w.heap.size w (((w.alloc (.cells #[.slice none 0 0] 72)).alloc (.cells #[.pointer (some ⟨ob, 0, none⟩)] 23)).alloc (.cells #[.int .i32 x] 21)) := (((Below.refl _ w).alloc (Nat.le_refl _) _).alloc (by simp) _).alloc (by simp; omega) _
  have hsz0 : (((w.alloc (.cells #[.slice none 0 0] 72)).alloc (.cells #[.pointer (some ⟨ob, 0, none⟩)] 23)).alloc (.cells #[.int .i32 x] 21)).heap.size = w.heap.size + 3 := by simp
  obtain ⟨W0, hW0⟩ : ∃ W0, (((w.alloc (.cells #[.slice none 0 0] 72)).alloc (.cells #[.pointer (some ⟨ob, 0, none⟩)] 23)).alloc (.cells #[.int .i32 x] 21)) = W0 := ⟨_, rfl⟩
  rw [hW0] at bA bS bX bel0 hsz0 ⊢
  clear hW0
  refine rng (gf := 60) (lb := #[.pointer (some ⟨w.heap.size + 1 + 1, 0, none⟩), .pointer (some ⟨w.heap.size + 1, 0, none⟩)]) rfl (enters_of Try.func60 (by kernel_rfl) rfl) (encs := fun y : Nat => #[.int .i32 y]) (fun _ => rfl)
    (St (w.heap.size + 1 + 1)) (Kp [g, ob, w.heap.size + 1, w.heap.size + 1 + 1])
    (fun X Y h => by obtain ⟨v, rfl⟩ := h; exact (KeepsOthers.setCell _ _ _).trans (KeepsOthers.drew _))
    (fun h k i hi => (k i hi).trans (h i hi))
    (fun W l o o' hl _ _ i hi => World.putObj_heap_other (by rw [hsz0] at hl; simp at hi; omega))
    (S := fun xs => xs = A) (Sp := fun _ => True) (N := A.length)
    (fun (pre : List Nat) W => (∃ v, Boxed W w.heap.size 72 v ∧ W.ownsRow (w.heap.size + 3) 21 1 v pre.length (pre.map fun y => Value.int .i32 (y : Nat)) ∧ True) ∧ Below w.heap.size w W ∧ w.heap.size + 3 ≤ W.heap.size)
    (fun _ _ _ => False)
    (OwnFrom.and (Own.from (holdsRow_own (w.heap.size + 3) w.heap.size 72 21 1 (fun pre : List Nat => pre.length) (fun pre : List Nat => pre.map fun y => Value.int .i32 (y : Nat)) (fun _ _ => True)) _) (OwnFrom.and (ownFrom_below (Nat.le_refl _) (by rw [hsz0]; omega)) (fun _ _ _ _ hs hg _ => Nat.le_trans hs hg.size)))
    (fun _ _ _ _ _ hs _ _ => hs)
    ?st (fun _ _ _ _ h _ => h) ⟨⟨_, bA, World.ownsRow_nil _ _ _ _, trivial⟩, bel0, by rw [hsz0]; omega⟩ ?seq
    (fun y a' _ => a' = { tmps := #[.pointer (some ⟨ob, 0, none⟩), .int .i32 x, undef, undef, .pointer (some ⟨w.heap.size, 0, none⟩), .int .i32 (y : Nat), undef, undef, undef, .pointer (some ⟨ob, 0, none⟩), .int .i32 x, .func (.func 60) #[] #[.pointer (some ⟨w.heap.size + 1 + 1, 0, none⟩), .pointer (some ⟨w.heap.size + 1, 0, none⟩)], .int .i32 (y : Nat), undef, undef, undef, undef, undef, undef, undef, undef, undef, undef, undef, undef, undef, undef, undef, undef, undef, undef, undef, undef, undef, undef, undef, undef, undef, undef, undef, undef, undef, undef, undef, undef, undef, undef, undef, undef, undef, undef, undef, undef, undef, undef, undef, undef, undef, undef, undef, undef, undef, undef, undef, undef, undef, undef, undef, undef, undef, undef, undef, undef, undef, undef], defers := [] })
    (fun _ _ _ _ _ _ h _ _ => h) ?assign ?body ?done ?stop
  case st =>
    rintro s X Y ⟨⟨v, h1, h2, _⟩, h3, h4⟩ ⟨v', rfl⟩
    refine ⟨⟨v, h1.kept (grown_sd X (w.heap.size + 1 + 1) v') (by simp; omega), ?_, trivial⟩, (h3.setCell (p := ⟨w.heap.size + 1 + 1, 0, none⟩) (by simp; omega) v').drew, Nat.le_trans h4 (grown_sd X (w.heap.size + 1 + 1) v').size⟩
    refine h2.kept (grown_sd X (w.heap.size + 1 + 1) v') ?_
    rcases h2.2 with ⟨rfl, _⟩ | ⟨g', cap', cur, rfl, hb', _⟩
    · exact .inl rfl
    · exact .inr (by simp [Value.ownBlock]; omega)
  case seq =>
    intro l J Jx W hb hsz hJ hJx hY h00
    have hT' : Tab W g n T := RTab.below (RTab.below hT bel0) hb
    have hO' : Ob W ob g n cap := (hO.mod (Mod.of_below (lo := 0) (hi := 0) bel0) (.inr (Nat.zero_le _))).mod (Mod.of_below (lo := 0) (hi := 0) hb) (.inr (Nat.zero_le _))
    refine (path1_in l (w.heap.size + 1 + 1) (w.heap.size + 1) ob g n cap T hn (by omega) (by omega) (by omega) [g, ob, w.heap.size + 1, w.heap.size + 1 + 1] (by simp) (by simp) (by simp) (by simp) J Jx hJ A.length hY W x hxn A hAn hroad (Nat.le_refl _) hT' hO' (bX.below hb) (bS.below hb) h00).mono ?_
    rintro e W' ⟨he, hh⟩
    refine ⟨he, ?_⟩
    rcases hh with hh | ⟨pre, hh⟩
    · exact .inl ⟨A, rfl, hh⟩
    · exact .inr ⟨pre, trivial, hh⟩
  case assign =>
    intro l pre y W K hi hK
    gi_wp2
    exact hK _ _ (KeepsFrom.refl _ _) (fun _ _ => rfl) hi rfl
  case body =>
    rintro l pre y a' W ⟨⟨v, hv1, hrow, _⟩, hB, hsz1⟩ rfl hlen
    obtain ⟨i0, hi, hz0, hz1, hz2⟩ := info_parts info21
    have hc := hv1.cell
    gi_wp2_with (gi_at_builtin; refine wpListIn_append_own _ rfl _ _ 72 rfl (w.heap.size + 3) 21 i0 (.int .i32 0) 1 4 Try.underlying72 hi hz0 hz1 hz2 rfl (by decide) _ _ _ rfl (hrow.alloc _) ⟨W.heap.size, 0, none⟩ 1 1 [.int .i32 (y : Nat)] rfl rfl (cell_one_new _ _ _) (by simp [Value.oneCell']) (by unfold maxLen; omega) (by omega) (by simp; omega) ?_; intro v' w1 hown' hgrow _; obtain ⟨g', cap', rfl⟩ := ownsRow_succ hown'; obtain ⟨hw1, hw2, hr2, hk2, hb2, hk3, hs3⟩ := col hv1 hrow hsz1 hown' hgrow; have hc1 := hw1.cell; have hf1 := hw1.frozen)
    exact ⟨hk2.from _, fun i hi => hk3 i (by simp at hi; omega) (by simp at hi; omega), ⟨⟨_, hw2, by simpa using hr2, trivial⟩, hB.trans hb2, hs3⟩⟩
  case done =>
    rintro D ys W hD hys ⟨⟨v, hv1, hrow, _⟩, hB, hs⟩ hK
    have hys' := hys.symm
    subst hys'
    clear hys
    have hAL : ∀ y ∈ A, y ∈ L := by
      intro y hy
      rw [← hA] at hy
      rcases List.mem_cons.1 hy with rfl | hy
      · exact hx
      · obtain ⟨f, hf, rfl⟩ := List.mem_map.1 hy
        exact in_L h (.inl (List.mem_flatMap.2 ⟨f, hf, by simp⟩))
    have hpos : 0 < A.length := by rw [← hA]; simp
    obtain ⟨m, hm⟩ : ∃ m, A.length = m + 1 := ⟨A.length - 1, by omega⟩
    rw [hm] at hrow
    obtain ⟨g', cap', rfl⟩ := ownsRow_succ hrow
    have hps0 : PS T L A x A.length T := by
      refine ⟨[], plug c (.node l x r), h, fun f hf => by simp at hf, fun _ => rfl, fun _ => rfl, fun _ _ => rfl, fun h => by omega, fun _ => ?_⟩
      rw [plug_root, ← hA]; simp [Tr.root]
    have hc1 : W.cell? ⟨w.heap.size, 0, none⟩ = some (.slice (some ⟨g', 0, none⟩) (m + 1) cap') := hv1.cell
    have hg1 : w.heap.size + 3 ≤ g' := by
      rcases hrow.2 with ⟨e, _⟩ | ⟨g2, cap2, cur2, e, hb2, _⟩
      · cases e
      · injection e with e; injection e with e; injection e with e; omega
    have TW := Lib.hid (RTab.below hT hB)
    have OW := Lib.hid (hO.mod (Mod.of_below (lo := 0) (hi := 0) hB) (.inr (Nat.zero_le _)))
    have cells : Hid (∀ j, j < m + 1 → W.cell? ⟨g', j, none⟩ = some (.int .i32 (A.getD j 0 : Nat))) := by
      intro j hj
      rw [hrow.cellAt j (by omega)]
      simp [List.getD_eq_getElem?_getD, List.getElem?_eq_getElem (show j < A.length by omega)]
    have HM := Lib.hid hm
    have HS0 := Lib.hid hps0
    have HAL := Lib.hid hAL
    have HL := Lib.hid hL
    have HV := Lib.hid hv
    have HR := Lib.hid hroad
    have HAn := Lib.hid hAn
    have HB := Lib.hid hB
    have HK := Lib.hid hK
    have HBX := Lib.hid hv1
    have gW : g' < W.heap.size := World.block_lt_of_cell? W _ (cells.out 0 (by omega))
    have mb : m ≤ 65536 := by omega
    clear hps0 hAL hL hv hroad hAn hB hK hv1 hrow hO hT h hA bA bS bX bel0 hpos hx hAl
    clear hm
    go_wp2_with fail
    go_loopw [6] (fun i wr => ∃ (j : Nat) (T1 : Tb), i = .int .i64 ((j : Int) - 1) ∧ j ≤ m + 1 ∧ Hid (Tab wr g n T1) ∧ Hid (Mod g (g + 1) W wr) ∧ Hid (PS T L A x j T1)) (fun i _ => (intOf i + 1).toNat)
    case atStart => exact ⟨m + 1, T, by simp, Nat.le_refl _, TW, Mod.refl _ _ _, by have := HS0.out; rw [HM.out] at this; exact this⟩
    case round =>
      obtain ⟨j, T1, rfl, hj, HT, HMd, HP⟩ := hrel
      clear hc1
      by_cases hlt : 0 < j
      · obtain ⟨j, rfl⟩ : ∃ k, j = k + 1 := ⟨j - 1, by omega⟩
        have ej : (((j + 1 : Nat) : Int) - 1) = j := by omega
        rw [ej]
        have hba := HBX.out
        have c1 : wr.cell? ⟨w.heap.size, 0, none⟩ = some (.slice (some ⟨g', 0, none⟩) (m + 1) cap') := (World.cell?_of_block (w := W) (HMd.out.block w.heap.size hba.lt (by omega))).trans hba.cell
        have c2 : wr.cell? ⟨g', j, none⟩ = some (.int .i32 (A.getD j 0 : Nat)) := (World.cell?_of_block (w := W) (HMd.out.block g' gW (by omega))).trans (cells.out j (by omega))
        obtain ⟨y, hy⟩ : ∃ y, A.getD j 0 = y := ⟨_, rfl⟩
        have hjA : j < A.length := by have := HM.out; omega
        have hyA : A.getD j 0 ∈ A := by rw [List.getD_eq_getElem?_getD, List.getElem?_eq_getElem hjA]; exact List.getElem_mem hjA
        have NX : Hid (PS T L A x j (push T1 y)) := by have := ps_step HP.out HR.out HAL.out hjA; rw [hy] at this; exact this
        have hyn : y ≤ n := HAn.out y (hy ▸ hyA)
        have hkid : (T1 y).k0 ≤ n ∧ (T1 y).k1 ≤ n := by
          obtain ⟨c, t, h1, _, _, _, _, _, h7⟩ := HP.out
          have ht := h7 (by omega)
          simp only [Nat.add_sub_cancel] at ht
          rw [hy] at ht
          have := kid_le h1 HL.out (by rw [ht]; exact h1.ne (HAL.out y (hy ▸ hyA)))
          rw [ht] at this; exact this
        have PC := Lib.hid (push_any (OW.out.mod HMd.out (by omega)) HT.out hpg y hyn hn hkid)
        rw [hy] at c2
        clear hy hba hyA hkid hjA HP
        go_wp2_with fail
        refine PC.out.mono ?_
        rintro e w2 ⟨rfl, t2, m2⟩
        have T2 := Lib.hid t2
        have M2 : Hid (Mod g (g + 1) W w2) := Mod.trans HMd.out m2
        clear t2 m2 c1 c2 PC
        go_wp2
        go_roundw
        case rel => exact ⟨j, _, rfl, by omega, T2, M2, NX⟩
        case measure => simp [intOf]
      · obtain rfl : j = 0 := by omega
        obtain ⟨c1, t1, hs1⟩ : ∃ c t, SS T L x c t T1 := by
          obtain ⟨c, t, h1, h2, h3, _, h5, h6, _⟩ := HP.out
          exact ⟨c, t, h1, h2, h3, h5, (h6 rfl).1, (h6 rfl).2⟩
        have SS1 := Lib.hid hs1
        clear hs1 HP
        have ej : (((0 : Nat) : Int) - 1) = -1 := by omega
        rw [ej]
        clear ej
        go_wp2_with fail
        obtain ⟨W2, hW2⟩ : ∃ W2 : World, W2 = wr := ⟨_, rfl⟩
        subst hW2
        go_loopg [] c1.length (fun gk wr => ∃ (c : List Fr) (t : Tr) (T2 : Tb), Hid (c.length = gk) ∧ Hid (Tab wr g n T2) ∧ Hid (Mod g (g + 1) W wr) ∧ Hid (SS T L x c t T2))
        case atStart => exact ⟨c1, t1, T1, rfl, HT, HMd, SS1⟩
        case round =>
          obtain ⟨c, t, T2, hgk, HT2, HM2, HS2⟩ := hrel
          clear HT HMd SS1 HS0
          have O2 := Lib.hid (OW.out.mod HM2.out (by omega))
          have co : wr.cell? ⟨ob, 1, none⟩ = some (.slice (some ⟨g, 0, none⟩) (n + 1) cap) := O2.out.2
          have hux : (T2 x).up = par c := by have := par_up HS2.out.tr (by rw [HS2.out.root]; exact hx0); rw [HS2.out.root] at this; exact this
          have cx := RTab.cup HT2.out hxn hux
          cases c with
          | nil =>
            have cx : wr.cell? ⟨g, x * 9 + 2, none⟩ = some (.int .i32 0) := cx
            clear hux
            have gD : D < W.heap.size := (Array.getElem?_eq_some_iff.1 HK.out).1
            have hK' : wr.heap[D]? = some (.deferred (some [])) := (HM2.out.block D gD (by rw [hsz0] at hD; omega)).trans HK.out
            have HK' := Lib.hid hK'
            clear hK'
            go_wp2_with fail
            refine ⟨by simp, .inl ⟨_, _, rfl, run_takeDeferred HK'.out, ?_⟩⟩
            have mfin : Mod g (g + 1) w (wr.putObj D (.deferred none)) := Mod.putObj (Mod.trans (Mod.of_below HB.out) HM2.out) (by rw [hsz0] at hD; omega) _
            have kfin : Kp [g] wr (wr.putObj D (.deferred none)) := fun i hi => World.putObj_heap_other (by rw [hsz0] at hD; simp at hi; omega)
            refine ⟨_, results_none rfl _ _ _, rfl, T2, RTab.kp HT2.out kfin (by simp), mfin, ?_⟩
            have q := HS2.out
            have qr := q.root
            cases t with
            | nil => exact absurd qr.symm hx0
            | node a z b =>
              obtain rfl : z = x := qr
              exact ⟨⟨a, b, q.tr⟩, q.turn, q.val, q.far⟩
          | cons f c =>
            have hp0 : f.p ≠ 0 := (plug_rep.1 HS2.out.tr.1).2.2.1
            have hpn : f.p ≤ n := HL.out _ (par_L HS2.out.tr)
            have hup : (T2 f.p).up = par c := (plug_rep.1 HS2.out.tr.1).2.2.2.1
            have cx2 : wr.cell? ⟨g, x * 9 + 2, none⟩ = some (.int .i32 f.p) := cx
            have cp := RTab.cup HT2.out hpn hup
            clear cx
            obtain ⟨⟨i1, ok1⟩, t1', ss1'⟩ := ss_rot HS2.out hx0 HL.out hn HV.out
            have SD := Lib.hid (fun b hb => side_any O2.out HT2.out f.p x b hb hpn hn)
            have hsx : decide ((T2 f.p).k1 = x) = f.b := by have := side_is HS2.out.tr (by rw [HS2.out.root]; exact hx0); rw [HS2.out.root] at this; exact this
            have hpb : ((f.p : Int) != 0) = true := by simp; omega
            cases c with
            | nil =>
              have cp2 : wr.cell? ⟨g, f.p * 9 + 2, none⟩ = some (.int .i32 0) := cp
              clear cp
              have RC := Lib.hid (rotate_any O2.out HT2.out hpg hn ok1)
              have S2 := Lib.hid ss1'
              have HG : 0 < gk := by have := hgk.out; simp at this; omega
              obtain ⟨p, hp⟩ : ∃ p, f.p = p := ⟨_, rfl⟩
              rw [hp] at cx2 cp2 hpb hpn
              clear hux hup hsx SD ok1 hp0 ss1' hp hgk HS2
              go_wp2_with fail
              refine RC.out.mono ?_
              rintro e w5 ⟨rfl, t5, m5⟩
              have T5 := Lib.hid t5
              have M5 : Hid (Mod g (g + 1) W w5) := Mod.trans HM2.out m5
              clear t5 m5 RC
              go_wp2
              go_roundg 0
              case measure => exact HG
              case rel => exact ⟨[], _, _, rfl, T5, M5, S2⟩
            | cons f2 c =>
              have cp2 : wr.cell? ⟨g, f.p * 9 + 2, none⟩ = some (.int .i32 f2.p) := cp
              have hg0 : f2.p ≠ 0 := ((plug_rep (T := T2) (c := f2 :: c) (t := mk f t)).1 HS2.out.tr.1).2.2.1
              have hgn : f2.p ≤ n := HL.out _ (par_L (t := mk f t) HS2.out.tr)
              have hgb : ((f2.p : Int) != 0) = true := by simp; omega
              have hsg : decide ((T2 f2.p).k1 = f.p) = f2.b := by have := side_is (t := mk f t) (c := c) (f := f2) HS2.out.tr (by rw [mk_root]; exact hp0); rw [mk_root] at this; exact this
              have SG := Lib.hid (side_any O2.out HT2.out f2.p f.p f2.b hsg hgn hn)
              have SX := Lib.hid (SD.out f.b hsx)
              have HGK := hgk.out
              simp only [List.length_cons] at HGK
              obtain ⟨p, hp⟩ : ∃ p, f.p = p := ⟨_, rfl⟩
              obtain ⟨q, hq⟩ : ∃ q, f2.p = q := ⟨_, rfl⟩
              obtain ⟨i1, hi1⟩ : ∃ i : Int, (if f.b = true then 1 else 0) = i := ⟨_, rfl⟩
              obtain ⟨i2, hi2⟩ : ∃ i : Int, (if f2.b = true then 1 else 0) = i := ⟨_, rfl⟩
              have RC := Lib.hid (rotate_any O2.out HT2.out hpg hn ok1)
              by_cases hb : f.b = f2.b
              · obtain ⟨⟨j1, ok2⟩, f', hf', ss2⟩ := ss_par HS2.out hb HL.out hn HV.out
                have R1 := Lib.hid (rotate_any O2.out HT2.out hpg hn ok2)
                have S2 := Lib.hid ss2
                have hii : (i2 == i1) = true := by rw [← hi1, ← hi2, hb]; simp
                rw [hp, hi1] at SX
                rw [hp, hq, hi2] at SG
                rw [hp] at R1 S2
                rw [hp] at cx2 cp2 hpb hpn
                rw [hq] at cp2 hgb hgn
                clear hux hup hsx SD ok1 hp0 ss1' hp hq hgk HS2 RC hi1 hi2 hb hsg hg0 ok2 ss2 hf' cp
                go_wp2_with fail
                refine SG.out.mono ?_
                rintro e w5 ⟨rfl, rfl⟩
                go_wp2_with fail
                refine SX.out.mono ?_
                rintro e w5 ⟨rfl, rfl⟩
                go_wp2_with fail
                refine R1.out.mono ?_
                rintro e w5 ⟨rfl, t5, m5⟩
                have T5 := Lib.hid t5
                have M5 : Hid (Mod g (g + 1) W w5) := Mod.trans HM2.out m5
                have O5 := Lib.hid (OW.out.mod M5.out (by omega))
                obtain ⟨⟨i3, ok3⟩, t3, ss3⟩ := ss_rot S2.out hx0 HL.out hn HV.out
                have R2 := Lib.hid (rotate_any O5.out T5.out hpg hn ok3)
                have S3 := Lib.hid ss3
                clear t5 m5 R1 S2 ok3 ss3 SG SX
                go_wp2_with fail
                refine R2.out.mono ?_
                rintro e w6 ⟨rfl, t6, m6⟩
                have T6 := Lib.hid t6
                have M6 : Hid (Mod g (g + 1) W w6) := Mod.trans M5.out m6
                clear t6 m6 R2
                go_wp2
                go_roundg c.length
                case measure => omega
                case rel => exact ⟨c, _, _, rfl, T6, M6, S3⟩
              · have S2 := Lib.hid ss1'
                have hii := side_ne hb
                rw [hi1, hi2] at hii
                rw [hp, hi1] at SX
                rw [hp, hq, hi2] at SG
                rw [hp] at cx2 cp2 hpb hpn
                rw [hq] at cp2 hgb hgn
                clear hux hup hsx SD ok1 hp0 ss1' hp hq hgk HS2 hi1 hi2 hb hsg hg0 cp
                go_wp2_with fail
                refine SG.out.mono ?_
                rintro e w5 ⟨rfl, rfl⟩
                go_wp2_with fail
                refine SX.out.mono ?_
                rintro e w5 ⟨rfl, rfl⟩
                go_wp2_with fail
                refine RC.out.mono ?_
                rintro e w5 ⟨rfl, t5, m5⟩
                have T5 := Lib.hid t5
                have M5 : Hid (Mod g (g + 1) W w5) := Mod.trans HM2.out m5
                have O5 := Lib.hid (OW.out.mod M5.out (by omega))
                obtain ⟨⟨i3, ok3⟩, t3, ss3⟩ := ss_rot S2.out hx0 HL.out hn HV.out
                have R2 := Lib.hid (rotate_any O5.out T5.out hpg hn ok3)
                have S3 := Lib.hid ss3
                clear t5 m5 RC S2 ok3 ss3 SG SX
                go_wp2_with fail
                refine R2.out.mono ?_
                rintro e w6 ⟨rfl, t6, m6⟩
                have T6 := Lib.hid t6
                have M6 : Hid (Mod g (g + 1) W w6) := Mod.trans M5.out m6
                clear t6 m6 R2
                go_wp2
                go_roundg c.length
                case measure => omega
                case rel => exact ⟨c, _, _, rfl, T6, M6, S3⟩
  case stop =>
    rintro D c pre W _ _ h _
    exact h.elim
end Go.Proofs.Ytblopfgnhokocaa
