/- Bitmaps: Free, of the package. -/
import Derived.Test.YtnpgddndelidfaaBitsEach
namespace Go.Proofs.Ytnpgddndelidfaa
open Go Go.RowKit

theorem runsTo_length (l : List UInt8) (k : Nat) : (runsTo l k).length ≤ k := by
  induction k with
  | zero => exact Nat.le_refl _
  | succ k ih =>
    simp only [runsTo]
    split
    · omega
    · rcases list_snoc (runsTo l k) with h | ⟨p, ⟨s, n⟩, h⟩
      · rw [h]; simp [grow]
      · rw [h] at ih ⊢
        rw [grow_snoc]
        simp at ih
        split <;> simp <;> omega

/-- Runs as the program's integers. -/
def ri (l : List (Nat × Nat)) : RL := l.map fun r => ((r.1 : Int), (r.2 : Int))
theorem ri_length (l : List (Nat × Nat)) : (ri l).length = l.length := by simp [ri]
theorem ri_append (a b : List (Nat × Nat)) : ri (a ++ b) = ri a ++ ri b := by simp [ri]

theorem info_run : (Try.prog.info? 31).map (fun i => (i.zero, i.size, i.bytes)) = some (some (.agg #[.int .i64 0, .int .i64 0]), 2, 16) := by kernel_rfl

def FreeR (b : Nat) (l : List (Nat × Nat)) (w : World) : Prop :=
  ∃ v, w.heap[b]? = some (.cells #[v] 26 (0, 0)) ∧ w.ownsRow (b + 1) 31 2 v (ri l).length (rcells (ri l))

theorem own_below {w w' : World} {base size n : Nat} {e : TypeId} {v : Value} {xs : List Value} (h : w.ownsRow base e size v n xs) (hb : Below w.heap.size w w') : w'.ownsRow base e size v n xs := by
  obtain ⟨h1, h2⟩ := h
  refine ⟨h1, ?_⟩
  rcases h2 with h2 | ⟨g, cap, cur, hv, hg, hh, r⟩
  · exact .inl h2
  · exact .inr ⟨g, cap, cur, hv, hg, by rw [hb.block g (lt_of_block hh)]; exact hh, r⟩

theorem FreeR.below {b : Nat} {l : List (Nat × Nat)} {w w' : World} (h : FreeR b l w) (hb : Below w.heap.size w w') : FreeR b l w' := by
  obtain ⟨v, h1, h2⟩ := h
  exact ⟨v, by rw [hb.block b (lt_of_block h1)]; exact h1, own_below h2 hb⟩

set_option maxHeartbeats 1000000 in
theorem free1_any (b : Nat) (l : List (Nat × Nat)) (x : Nat × Nat) (w : World) (h : FreeR b l w) (hl : l.length ≤ 1000000000) :
    Calls Try.prog 25 #[.agg #[.int .i64 x.1, .int .i64 x.2], .pointer (some ⟨b, 0, none⟩)] w fun e w' => e = .returned (.bool true) ∧ FreeR b (l ++ [x]) w' ∧ Below b w w' := by
  obtain ⟨v, h1, h2⟩ := h
  obtain ⟨i0, hi0, hz0, hz1, hz2⟩ := info_parts info_run
  have hlt := lt_of_block h1
  have cb := cell_of_one h1
  have fb := free_of_one h1
  have hlen : (ri l).length ≤ 1000000000 := by rw [ri_length]; exact hl
  go_enter Try.func25, Try.ntmps25
  have hsmall : (ri l).length + 1 ≤ maxLen := by unfold maxLen; omega
  have hone : ∀ u ∈ ([.int .i64 (x.1 : Int), .int .i64 (x.2 : Int)] : List Value), u.oneCell' = true := by simp [Value.oneCell']
  go_wp2_with (first
    | (at_builtin; refine wpList_append_own _ rfl _ _ 26 rfl (b + 1) 31 i0 (.agg #[.int .i64 0, .int .i64 0]) 2 16 Try.underlying26 hi0 hz0 hz1 hz2 rfl (by decide) v _ _ rfl ((h2.alloc _).alloc _) ⟨w.heap.size + 1, 0, none⟩ 1 1 [.int .i64 x.1, .int .i64 x.2] rfl rfl
        (World.news_of_block (heap_alloc2_new _ _ _)) hone hsmall (by omega) (by simp; omega) ?_))
  intro v' w1 hown hgrow _
  have hv : v.ownBlock ≠ some b := fun e => by have := (h2.lt b e).1; omega
  have hb1 : w1.heap[b]? = some (.cells #[v] 26 (0, 0)) := by
    rw [hgrow.block b (by simp; omega) (fun e => hv e.symm), Below.heap_alloc _ _ _ (by simp; omega), Below.heap_alloc _ _ _ hlt]; exact h1
  have cb1 := cell_of_one hb1
  have fb1 := free_of_one hb1
  have hbel : Below b w w1 := (((Below.refl _ _).alloc (by omega) _).alloc (by simp; omega) _).grown hgrow (by simp; omega) (fun k hk => by have := (h2.lt k hk).1; omega)
  have hv' : v'.ownBlock ≠ some b := fun e => by have := (hown.lt b e).1; omega
  clear hone hsmall cb fb h1 h2
  have hex : ∃ a n c, v' = .slice a n c := by
    rcases hown.2 with ⟨rfl, _⟩ | ⟨g, cap, cur, rfl, _⟩
    · exact ⟨_, _, _, rfl⟩
    · exact ⟨_, _, _, rfl⟩
  obtain ⟨a', n', c', hv2⟩ := hex
  subst hv2
  go_wp2_with fail
  go_ret
  refine ⟨rfl, ⟨_, one_setCell hb1, ?_⟩, hbel.setCell (Nat.le_refl _) _⟩
  refine ownsRow_setCell_other ?_ hv' _
  rw [ri_append, rcells_append, List.length_append]
  exact hown

theorem ask_free (r : List (Nat × Nat)) : ∀ l, ask (fun l x => (l ++ [x], true)) l r = (l ++ r, true) := by
  induction r with
  | nil => intro l; simp [ask]
  | cons x r ih => intro l; simp only [ask, if_true]; rw [ih]; simp

theorem ownsRow_le {w : World} {base base' size n : Nat} {e : TypeId} {v : Value} {xs : List Value} (h : w.ownsRow base e size v n xs) (hb : base' ≤ base) : w.ownsRow base' e size v n xs :=
  ⟨h.1, h.2.elim Or.inl (fun ⟨g, cap, cur, hv, hg, r⟩ => Or.inr ⟨g, cap, cur, hv, Nat.le_trans hb hg, r⟩)⟩

/-- What a list of runs that a call has made is. -/
def RunsOwn (w0 w : World) (v : Value) (l : RL) : Prop := w.ownsRow w0.heap.size 31 2 v l.length (rcells l)
theorem RunsOwn.at {w0 w : World} {v : Value} {l : RL} (h : RunsOwn w0 w v l) : RunsAt w v l := RunsAt.own h

set_option maxHeartbeats 1000000 in
theorem free_any (s : ByteArray) (n : Int) (hs : s.size ≤ 100000000) (hn : -9223372036854775808 ≤ n ∧ n ≤ 9223372036854775807) (w : World) :
    Calls Try.prog 15 #[.string s, .int .i64 n] w fun e w' => ∃ v, e = .returned v ∧ RunsOwn w w' v (ri (runsTo s.data.toList (firstN s.data.toList n))) ∧ Below w.heap.size w w' := by
  have hmf : ∀ (fn : Fn) (first cap : Array Value) (w : World), (Instr.makeFunc fn first cap).run Try.prog w = .ok (.func fn first cap) w := fun _ _ _ _ => rfl
  go_enter Try.func15, Try.ntmps15
  go_wp2_with fail
  refine (each_gen 25 [.pointer (some ⟨w.heap.size, 0, none⟩)] (.inl ⟨rfl, _, rfl⟩) s n (by omega) hn (FreeR w.heap.size) (fun l x => (l ++ [x], true)) [] w.heap.size _ ?_ (by simp) (fun _ _ _ h hb => h.below hb) ?_).mono ?_
  · exact ⟨.slice none 0 0, heap_alloc_new w _, World.ownsRow_nil _ _ _ _⟩
  · rintro st x w1 hR hx ⟨i, hi, hask⟩
    have hst : st = runsTo s.data.toList i := by rw [ask_free] at hask; simpa using (congrArg Prod.fst hask).symm
    have hlen : st.length ≤ 1000000000 := by rw [hst]; have := runsTo_length s.data.toList i; omega
    exact free1_any w.heap.size st x w1 hR hlen
  · rintro e w2 ⟨rfl, hR, hbw⟩
    rw [ask_free, List.nil_append] at hR
    dsimp only at hR
    generalize hL : runsTo s.data.toList (firstN s.data.toList n) = L at hR
    have HL := Lib.hid hL
    clear hL
    obtain ⟨v, h1, h2⟩ := hR
    have cb := cell_of_one h1
    have fb := free_of_one h1
    have hv : v.ownBlock ≠ some w.heap.size := fun e => by have := (h2.lt _ e).1; omega
    have hex : ∃ a n c, v = .slice a n c := by
      rcases h2.2 with ⟨rfl, _⟩ | ⟨g, cap, cur, rfl, _⟩
      · exact ⟨_, _, _, rfl⟩
      · exact ⟨_, _, _, rfl⟩
    obtain ⟨a', n', c', hv2⟩ := hex
    subst hv2
    have hbw0 : Below w.heap.size w w2 := ((Below.refl _ _).alloc (Nat.le_refl _) _).trans hbw
    go_wp2_with fail
    have hc := cell_of_one (one_setCell h1 (u := .slice a' n' c'))
    refine bodyPost_ret (v := .slice a' n' c') ?_ rfl ⟨_, rfl, ?_, hbw0.setCell (Nat.le_refl _) _⟩
    · simp [results, Try.results15, go_sem, hc]
    · rw [HL.out]; exact ownsRow_le (ownsRow_setCell_other h2 hv _) (Nat.le_succ _)

end Go.Proofs.Ytnpgddndelidfaa
