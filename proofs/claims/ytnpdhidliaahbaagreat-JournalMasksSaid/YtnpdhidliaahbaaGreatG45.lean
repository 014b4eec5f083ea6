/- JournalRound: what it wants of memory and of the log. -/
import Derived.Test.YtnpdhidliaahbaaGreatG41
import Derived.Test.YtnpdhidliaahbaaGreatG37
import Derived.Test.YtnpdhidliaahbaaGreatG39
set_option linter.unusedSimpArgs false
set_option linter.unusedVariables false
namespace Go.Proofs.YtnpdhidliaahbaaGreat
set_option linter.unusedVariables false
open Go Go.RowKit
theorem OwnT.setCellsR {B b : Nat} {S : TypeId} {w : World} {v : Value} {ts : List Jr.Txn} {cs : List Value} (h : OwnT B w v ts) (hr : Row w b S cs) (h1 : 25 ≠ S) (h2 : 68 ≠ S) (h3 : 3 ≠ S) (vs : List Value) (o : Nat) : OwnT B (w.setCells b o vs) v ts := by
  obtain ⟨xs, k1, k2⟩ := h
  exact ⟨xs, own_setCellsR h1 vs o hr k1, k2.map (fun _ _ h => own_setCellsR h2 vs o hr h) (fun _ _ h => own_setCellsR h3 vs o hr h)⟩
theorem OwnT.slice {B : Nat} {w : World} {v : Value} {ts : List Jr.Txn} (h : OwnT B w v ts) : ∃ ad c, v = .slice ad ts.length c := by
  obtain ⟨ad, cap, rfl⟩ := h.at.form
  exact ⟨ad, cap, rfl⟩
theorem OwnT.none (B : Nat) (w : World) : OwnT B w (.slice Option.none 0 0) [] := ⟨[], ⟨rfl, .inl ⟨rfl, rfl⟩⟩, trivial⟩
/-- What an append of a transaction leaves. -/
theorem all_push {B n : Nat} {w2 w5 : World} {v c r : Value} {ys : List Value} {o : Obj} {pq : List (Value × Value)} {ts : List Jr.Txn} {t : Jr.Txn} (ho : (w2.alloc o).ownsRow B 25 2 v n ys) (hT : OwnTs B w2 pq ts) (hc : OwnC B w2 c t.ch) (hr : OwnInts B w2 r t.rv) (hgrow : (w2.alloc o).grownBy w5 v.ownBlock) : OwnTs B w5 (pq ++ [(c, r)]) (ts ++ [t]) := by
  have gC : ∀ v l, OwnC B w2 v l → OwnC B w5 v l := fun v l h => own_otherR (own_new1 h o) ho hgrow (by decide)
  have gI : ∀ v l, OwnInts B w2 v l → OwnInts B w5 v l := fun v l h => own_otherR (own_new1 h o) ho hgrow (by decide)
  exact (hT.map gC gI).snoc (gC _ _ hc) (gI _ _ hr)
theorem SysAt.belowB {Bd wb db lb b : Nat} {y : Lay} {g : Geo.G} {D : Dev} {V : LogV} {home want : List UInt8} {w w' : World} (h : SysAt Bd wb db lb y g D V home want w) (hb : Below b w w') (hS : ∀ k ∈ wb :: lb :: devB db y, k < b) : SysAt Bd wb db lb y g D V home want w' :=
  ⟨h.row.below hb (hS wb (by simp)), h.hl, h.wl, h.dev.belowB hb (fun k hk => hS k (List.mem_cons_of_mem _ (List.mem_cons_of_mem _ hk))), Row.below h.log hb (hS lb (by simp)), h.ne⟩
theorem all_grown {B b n : Nat} {w w2 w5 : World} {v : Value} {ys : List Value} {o : Obj} (ho : (w2.alloc o).ownsRow B 25 2 v n ys) (hgrow : (w2.alloc o).grownBy w5 v.ownBlock) (hb : Below b w w2) (h1 : b ≤ B) (h2 : b ≤ w2.heap.size) : Below b w w5 :=
  (hb.alloc h2 o).grown hgrow (by simp; omega) (fun j hj => by have := (World.ownsRow.lt ho j hj).1; omega)
theorem mem_sizes {t : Jr.Txn} : ∀ {l : List Jr.Txn}, t ∈ l → Jr.size t ≤ Jr.sizes l
  | x :: l, h => by
    unfold Jr.sizes
    rcases List.mem_cons.1 h with rfl | h
    · omega
    · have := mem_sizes h; omega
namespace Sys
theorem Ok.read {g : Geo.G} {D : Dev} {V : LogV} {home want : List UInt8} {at_ q K : Nat} {l : List Jr.Txn} (h : Ok g D V home want at_ q l K) : Jr.readL g D.now = some ⟨at_, q, l, Jr.sizes l⟩ :=
  (h.all.atNow h.dok.len).2.read h.may
theorem Ok.fresh {g : Geo.G} {D : Dev} {V : LogV} {home want : List UInt8} {at_ q K : Nat} {l : List Jr.Txn} (h : Ok g D V home want at_ q l K) : Ok g (Dev.fresh D.kept) V home want at_ q l K :=
  ⟨h.may, (Dev.Ok.fresh _ h.dok.kept).mono (Nat.zero_le _), h.blocks, Jr.All.same rfl h.all.atKept, h.says, h.V, h.hl, h.wl, h.num⟩
theorem Ok.rep {g : Geo.G} {D : Dev} {V : LogV} {home want : List UInt8} {at_ q K : Nat} {l : List Jr.Txn} (ho : Ok g D V home want at_ q l K) (hk : D.kept = D.now) : Rep g D want K at_ q l := by
  have hL : Lost g want want K D.now := (ho.dead want).all.atNow ho.dok.len
  obtain ⟨a, q', l', h', hh, R⟩ := replay ho.may ho.dok hk ho.blocks ho.wl ho.wl hL
  have e := R.read.symm.trans ho.read
  simp only [Option.some.injEq, Jr.Log.mk.injEq] at e
  obtain ⟨rfl, rfl, rfl, _⟩ := e
  obtain rfl : h' = want := hh.elim id id
  exact R
theorem Ok.room {g : Geo.G} {D : Dev} {V : LogV} {home want : List UInt8} {at_ q K : Nat} {l : List Jr.Txn} (ho : Ok g D V home want at_ q l K) : V.used = Jr.sizes l ∧ V.used ≤ Jr.plc g ∧ V.seq = q + l.length := by
  have h := (ho.all.atNow ho.dok.len).2.fit
  rw [ho.V]
  exact ⟨rfl, by show Jr.sizes l ≤ _; omega, rfl⟩
theorem Ok.small {g : Geo.G} {D : Dev} {V : LogV} {home want : List UInt8} {at_ q K : Nat} {l : List Jr.Txn} (ho : Ok g D V home want at_ q l K) : ∀ t ∈ l, t.ch.length ≤ 1000000000 ∧ t.rv.length ≤ 1000000000 := by
  have h1 := (ho.all.atNow ho.dok.len).2.fit
  have h2 := Jr.plc_of ho.may
  have h3 := ho.may.ok.1
  unfold Geo.asked at h3
  intro t ht
  have h4 := mem_sizes ht
  have h5 : t.rv.length ≤ 28 * Jr.cdiv t.rv.length 28 := by unfold Jr.cdiv; omega
  unfold Jr.size at h4
  omega
end Sys
end Go.Proofs.YtnpdhidliaahbaaGreat
