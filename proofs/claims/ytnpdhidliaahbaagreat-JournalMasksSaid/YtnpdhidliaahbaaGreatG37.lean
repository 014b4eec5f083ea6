/- A log and twelve blocks: crashes and replays, in plain Lean. The world of the chapter's steps, in memory; has: do the twelve blocks of a device have these bytes? Steps in memory; the flags that a step's lists set. settle: all is written to its home, and a checkpoint made. Layout, and a world begun. What a crash left is opened, replayed, and a log opened on it, in the words of the steps. -/
import Derived.Test.YtnpdhidliaahbaaGreatG35
import Derived.Test.YtnpdhidliaahbaaGreatG07
import Derived.Test.YtnpdhidliaahbaaGreatG36
import Derived.Test.YtnpdhidliaahbaaGreatG34
import Derived.Test.YtnpdhidliaahbaaGreatG24
import Derived.Test.YtnpdhidliaahbaaGreatG19
import Derived.Test.YtnpdhidliaahbaaGreatG21
import Derived.Test.YtnpdhidliaahbaaGreatG20
import Derived.Test.YtnpdhidliaahbaaGreatG23
import Derived.Test.YtnpdhidliaahbaaGreatG11
set_option linter.unusedSimpArgs false
set_option linter.unusedVariables false
namespace Go.Proofs.YtnpdhidliaahbaaGreat
set_option linter.unusedVariables false
open Go Go.RowKit

/-- A block of an image. -/
theorem cat_sliceS (l : List ByteArray) (h : sized l) (i : Nat) (hi : i < l.length) : (txt (cat l)).extract (i * 128) ((i + 1) * 128) = l.getD i ⟨#[]⟩ := by
  have e : l.getD i ⟨#[]⟩ = l[i] := by simp [List.getD, hi]
  rw [e, txt_extract]
  have hsp : l = l.take i ++ (l[i] :: l.drop (i + 1)) := by
    rw [List.getElem_cons_drop, List.take_append_drop]
  have hc : cat l = cat (l.take i) ++ (l[i].data.toList ++ cat (l.drop (i + 1))) := by
    conv => lhs; rw [hsp]
    simp only [cat, List.map_append, List.flatten_append, List.map_cons, List.flatten_cons]
  have h1 : (cat (l.take i)).length = i * 128 := by
    rw [cat_length _ (fun s hs => h s (List.mem_of_mem_take hs)), List.length_take]; congr 1; omega
  have h2 : l[i].data.toList.length = 128 := by rw [Array.length_toList]; exact h _ (List.getElem_mem hi)
  rw [hc, ← List.append_assoc, List.take_left' (by rw [List.length_append, h1, h2]; omega), List.drop_left' h1]
  exact txt_of _
theorem blk_midS (s : ByteArray) (j : Nat) : s.extract (j * 128) ((j + 1) * 128) = blkS s j := by
  conv => lhs; rw [← txt_of s]
  rw [txt_extract]
  unfold blkS
  congr 1
  rw [List.drop_take]
  congr 1; omega
theorem pendTo_falsesS (n k : Nat) : pendTo (List.replicate n false) k = [] := by
  induction k with
  | zero => rfl
  | succ k ih =>
    show (if (List.replicate n false).getD k false = true then _ else _) = _
    have : (List.replicate n false).getD k false = false := by
      by_cases h : k < n
      · simp [List.getD, h]
      · simp [List.getD, h]
    rw [this, ih]; rfl
theorem chop_cat_selfS (L : List ByteArray) (hL : sized L) : chop (txt (cat L)) L.length = L := by
  apply ext_blocks
  · exact chop_length _ _
  intro i hi
  rw [chop_length] at hi
  have hg : ∀ n, i < n → n ≤ L.length → (chop (txt (cat L)) n).getD i ⟨#[]⟩ = blkS (txt (cat L)) i := by
    intro n
    induction n with
    | zero => intro h; omega
    | succ n ih =>
      intro h1 h2
      show (chop (txt (cat L)) n ++ [blkS (txt (cat L)) n]).getD i ⟨#[]⟩ = _
      rcases Nat.lt_or_ge i n with h | h
      · have := ih h (by omega)
        rw [← this]
        simp only [List.getD]; rw [List.getElem?_append_left (by rw [chop_length]; exact h)]
      · obtain rfl : i = n := by omega
        simp [List.getD, chop_length]
  rw [hg L.length hi (Nat.le_refl _), ← blk_midS, cat_sliceS L hL i hi]
theorem blk_inj {x y : UInt8} (h : blk x = blk y) : x = y := by
  unfold blk txt at h
  have h := congrArg (fun b => b.data.toList) h
  simp only [List.toList_toArray] at h
  have h := congrArg (fun b => b.head?) h
  simp only [List.head?_replicate] at h
  simpa using h
namespace Sys
/-- Who is not armed lives. -/
theorem run_unarmed (a : Jr.Act) {D : Dev} (h : D.armed = false) : (a.run D).2 ≠ 61 ∧ (a.run D).1.armed = false := by
  have hd : D.dead = false := by unfold Dev.dead; rw [h]; rfl
  cases a with
  | write b s =>
    show D.writeE b s ≠ 61 ∧ (D.write b s).armed = false
    refine ⟨?_, ?_⟩
    · unfold Dev.writeE
      rw [hd]
      have : D.ask b ≠ 61 := by unfold Dev.ask; split <;> decide
      split
      · exact this
      · split <;> simp
    · rcases Jr.write_cases D b s with ⟨_, e⟩ | ⟨_, _, _, e, _⟩
      · rw [e]; exact h
      · exact e.trans h
  | flush =>
    show D.flushE ≠ 61 ∧ D.flush.armed = false
    refine ⟨by unfold Dev.flushE; rw [hd]; simp, ?_⟩
    rcases Jr.flush_cases D with ⟨_, e⟩ | ⟨_, _, _, e, _⟩
    · rw [e]; exact h
    · exact e.trans h
theorem unarmed : ∀ (l : List Jr.Act) {D : Dev}, D.armed = false → (Jr.doA l D).2 ≠ 61 ∧ (Jr.doA l D).1.armed = false
  | [], D, h => ⟨by show (0 : Int) ≠ 61; decide, h⟩
  | a :: l, D, h => by
    rw [Jr.doA_cons]
    have := run_unarmed a h
    split
    · exact unarmed l this.2
    · exact this
theorem same_bytes {g : Geo.G} {a b : List UInt8} {m : List ByteArray} (ha : a.length = 12) (hb : b.length = 12) (h1 : AtHome g a m) (h2 : AtHome g b m) : a = b := by
  apply List.ext_getElem (by rw [ha, hb])
  intro i h3 h4
  have := blk_inj ((h1 i (by omega)).symm.trans (h2 i (by omega)))
  simpa [List.getD, h3, h4] using this
variable {g : Geo.G} {D : Dev} {V : LogV} {home want next : List UInt8} {at_ q K : Nat} {l : List Jr.Txn}
/-- What a device is that is opened of what a crash left. -/
theorem Dead.crashed (h : Dead g D want next K) (keep : List Bool) : Lost g want next K (D.crash keep) ∧ sized (D.crash keep) ∧ ((D.crash keep).length : Int) = g.blocks :=
  ⟨h.all _ (Jr.crash_mix h.dok keep), crash_sized D K h.dok keep, by rw [crash_length]; exact h.blocks⟩
theorem Dead.kept (h : Dead g D want next K) : Lost g want next K D.kept ∧ sized D.kept ∧ (D.kept.length : Int) = g.blocks :=
  ⟨h.all _ .left, h.dok.kept, h.blocks⟩
theorem Dead.mono (h : Dead g D want next K) {K' : Nat} (hK : K ≤ K') : Dead g D want next K' :=
  ⟨h.dok.mono hK, h.blocks, h.all.imp fun m ⟨a, q, l, h1, h2, h3⟩ => ⟨a, q, l, h1, by omega, h3⟩⟩
theorem Lost.mono {m : List ByteArray} (h : Lost g want next K m) {K' : Nat} (hK : K ≤ K') : Lost g want next K' m := by
  obtain ⟨a, q, l, h1, h2, h3⟩ := h
  exact ⟨a, q, l, h1, by omega, h3⟩
/-- A replay, whether it fails or not. -/
structure Rep (g : Geo.G) (D : Dev) (h : List UInt8) (K : Nat) (at_ q : Nat) (l : List Jr.Txn) : Prop where
  read : Jr.readL g D.now = some ⟨at_, q, l, Jr.sizes l⟩
  num : q + l.length ≤ K + 1
  idle : l = [] → Ok g D ⟨at_, 0, q, 0⟩ h h at_ q [] K
  err : (Jr.doA (Jr.replayA g l ((at_ + Jr.sizes l) % Jr.plc g) (q + l.length)) D).2 = 0 ∨ (Jr.doA (Jr.replayA g l ((at_ + Jr.sizes l) % Jr.plc g) (q + l.length)) D).2 = 61
  dead : Dead g (Jr.doA (Jr.replayA g l ((at_ + Jr.sizes l) % Jr.plc g) (q + l.length)) D).1 h h (K + 5000)
  ok : (Jr.doA (Jr.replayA g l ((at_ + Jr.sizes l) % Jr.plc g) (q + l.length)) D).2 = 0 → (Jr.doA (Jr.replayA g l ((at_ + Jr.sizes l) % Jr.plc g) (q + l.length)) D).1.kept = (Jr.doA (Jr.replayA g l ((at_ + Jr.sizes l) % Jr.plc g) (q + l.length)) D).1.now ∧ Ok g (Jr.doA (Jr.replayA g l ((at_ + Jr.sizes l) % Jr.plc g) (q + l.length)) D).1 ⟨(at_ + Jr.sizes l) % Jr.plc g, 0, q + l.length, 0⟩ h h ((at_ + Jr.sizes l) % Jr.plc g) (q + l.length) [] (K + 5000)
theorem replay (hg : Geo.May g) (hd : D.Ok K) (hk : D.kept = D.now) (hb : (D.kept.length : Int) = g.blocks) (hw : want.length = 12) (hx : next.length = 12) (hL : Lost g want next K D.now) :
    ∃ at_ q l h, (h = want ∨ h = next) ∧ Rep g D h K at_ q l := by
  obtain ⟨at_, q, l, hS, hn, hv⟩ := hL
  obtain ⟨h, hh, hv, hl⟩ : ∃ h, (h = want ∨ h = next) ∧ Vals g l h D.now ∧ h.length = 12 := by
    rcases hv with hv | hv
    · exact ⟨want, .inl rfl, hv, hw⟩
    · exact ⟨next, .inr rfl, hv, hx⟩
  obtain ⟨s1, s2, s3⟩ := Jr.replay_safe hg hk hb hS
  have hf := fun k (hk : k < 12) => (hb_facts hg (k := k) (by omega)).2.2.2
  have h0 := hg.ok.1
  unfold Geo.asked at h0
  have hlen : (Jr.replayA g l ((at_ + Jr.sizes l) % Jr.plc g) (q + l.length)).length ≤ 5000 := by
    unfold Jr.replayA Jr.headA Jr.comes
    rw [List.length_append, List.length_map]
    have := List.length_filterMap_le (fun (b : Nat) => (Jr.look l b).map fun s => ((b : Int), s)) (List.range g.blocks.toNat)
    rw [List.length_range] at this
    simp only [List.length_cons, List.length_nil]
    omega
  have hD := (Jr.ok_doA (Jr.replayA g l ((at_ + Jr.sizes l) % Jr.plc g) (q + l.length)) hd).mono (show K + _ ≤ K + 5000 by omega)
  have hbl := (Jr.len_doA (Jr.replayA g l ((at_ + Jr.sizes l) % Jr.plc g) (q + l.length)) hd.len).1
  refine ⟨at_, q, l, h, hh, hS.read hg, hn, fun e => ?_, s1, ⟨hD, by rw [hbl]; exact hb, s2.imp fun m hm => ?_⟩, fun e => ?_⟩
  · subst e
    exact ⟨hg, hd, hb, Jr.All.same hk ⟨hv, hS⟩, says_nil g h, by
      show LogV.mk _ _ _ _ = LogV.mk ((at_ + 0) % Jr.plc g) 0 (q + 0) 0
      rw [Nat.add_zero, Nat.mod_eq_of_lt hS.lt, Nat.add_zero], hl, hl, hn⟩
  · rcases hm with hm | hm
    · exact ⟨at_, q, l, hm.1, by omega, .inl fun k hk => by rw [hm.2 _ (hf k hk)]; exact hv k hk⟩
    · exact ⟨_, _, [], hm.1, by show q + l.length + 0 ≤ _; omega, .inl fun k hk => by
        show Jr.blk m _ = _
        rw [hm.2 _ (hf k hk)]; exact hv k hk⟩
  · obtain ⟨s4, s5, s6⟩ := s3 e
    refine ⟨s4, hg, hD, by rw [hbl]; exact hb, Jr.All.same s4 ⟨fun k hk => ?_, s5⟩, says_nil g h, ?_, hl, hl, by show q + l.length + 0 ≤ _; omega⟩
    · rw [s6 _ (hf k hk)]; exact hv k hk
    · show _ = LogV.mk (((at_ + Jr.sizes l) % Jr.plc g + 0) % Jr.plc g) 0 (q + l.length + 0) 0
      rw [Nat.add_zero, Nat.add_zero, Nat.mod_mod]
/-- A log anew. -/
theorem begun (hg : Geo.May g) (hd : D.Ok K) (hb : (D.kept.length : Int) = g.blocks) (h0 : AtHome g home D.now) (hl : home.length = 12) (h : (Jr.doA (Jr.fmtA g) D).2 = 0) :
    Ok g (Jr.doA (Jr.fmtA g) D).1 ⟨0, 0, 1, 0⟩ home home 0 1 [] (K + 600) ∧ (Jr.doA (Jr.fmtA g) D).1.kept = (Jr.doA (Jr.fmtA g) D).1.now := by
  obtain ⟨s1, s2, s3⟩ := Jr.fmt_safe hg hd.len hb h
  have hpl := Jr.plc_of hg
  have hlen : (Jr.fmtA g).length ≤ 600 := by
    unfold Jr.fmtA Jr.headA
    rw [List.length_append, ringW_length, List.length_replicate]
    simp only [List.length_cons, List.length_nil]
    omega
  have hD := (Jr.ok_doA (Jr.fmtA g) hd).mono (show K + _ ≤ K + 600 by omega)
  have hbl := (Jr.len_doA (Jr.fmtA g) hd.len).1
  refine ⟨⟨hg, hD, by rw [hbl]; exact hb, Jr.All.same s1 ⟨fun k hk => ?_, s2⟩, says_nil g home, ?_, hl, hl, by show 1 + 0 ≤ _; omega⟩, s1⟩
  · rw [s3 _ (hb_facts hg (k := k) (by omega)).2.2.2]; exact h0 k hk
  · show _ = LogV.mk ((0 + 0) % Jr.plc g) 0 (1 + 0) 0
    rw [Nat.add_zero, Nat.zero_mod]
end Sys
end Go.Proofs.YtnpdhidliaahbaaGreat

namespace Go.Proofs.YtnpdhidliaahbaaGreat
set_option linter.unusedVariables false
open Go Go.RowKit

def sysC (g : Geo.G) (db lb : Nat) (home want : List UInt8) : List Value := (Geo.cells g).toList ++ ([.pointer (some ⟨db, 0, none⟩), .pointer (some ⟨lb, 0, none⟩)] ++ (bcells home ++ (bcells want ++ [])))
theorem sysC_want (g : Geo.G) (db lb : Nat) (home want : List UInt8) : sysC g db lb home want = ((Geo.cells g).toList ++ ([.pointer (some ⟨db, 0, none⟩), .pointer (some ⟨lb, 0, none⟩)] ++ bcells home)) ++ (bcells want ++ []) := by unfold sysC; simp
theorem sysC_home (g : Geo.G) (db lb : Nat) (home want : List UInt8) : sysC g db lb home want = ((Geo.cells g).toList ++ [.pointer (some ⟨db, 0, none⟩), .pointer (some ⟨lb, 0, none⟩)]) ++ (bcells home ++ bcells want) := by unfold sysC; simp
theorem sysC_len {g : Geo.G} {db lb : Nat} {home want : List UInt8} (hl : home.length = 12) (wl : want.length = 12) : (sysC g db lb home want).length = 35 := by
  unfold sysC Geo.cells
  simp [bcells_length, hl, wl]
theorem sysC_wantAt {g : Geo.G} {db lb : Nat} {home want : List UInt8} (hl : home.length = 12) (wl : want.length = 12) {k : Nat} (hk : k < 12) : (sysC g db lb home want)[23 + k]? = some (bval (want.getD k 0)) := by
  rw [sysC_want, List.getElem?_append_right (by simp [Geo.cells, bcells_length, hl]), List.append_nil]
  have : 23 + k - ((Geo.cells g).toList ++ ([Value.pointer (some ⟨db, 0, none⟩), Value.pointer (some ⟨lb, 0, none⟩)] ++ bcells home)).length = k := by simp [Geo.cells, bcells_length, hl]
  rw [this]
  exact bcells_at want k (by omega)
theorem sysC_homeAt {g : Geo.G} {db lb : Nat} {home want : List UInt8} (hl : home.length = 12) (wl : want.length = 12) {k : Nat} (hk : k < 12) : (sysC g db lb home want)[11 + k]? = some (bval (home.getD k 0)) := by
  rw [sysC_home, List.getElem?_append_right (by simp [Geo.cells])]
  have : 11 + k - ((Geo.cells g).toList ++ [Value.pointer (some ⟨db, 0, none⟩), Value.pointer (some ⟨lb, 0, none⟩)]).length = k := by simp [Geo.cells]
  rw [this, List.getElem?_append_left (by rw [bcells_length]; omega)]
  exact bcells_at home k (by omega)
/-- The world w.home, w.want .. lies at wb, with its device and its log. -/
structure SysAt (Bd wb db lb : Nat) (y : Lay) (g : Geo.G) (D : Dev) (V : LogV) (home want : List UInt8) (w : World) : Prop where
  row : Row w wb 66 (sysC g db lb home want)
  hl : home.length = 12
  wl : want.length = 12
  dev : DevAt Bd w db y D
  log : LogAt lb db g V w
  ne : wb ≠ lb ∧ wb ∉ devB db y ∧ lb ∉ devB db y
section
variable {Bd wb db lb : Nat} {y : Lay} {g : Geo.G} {D : Dev} {V : LogV} {home want : List UInt8} {w w' : World}
theorem SysAt.below (h : SysAt Bd wb db lb y g D V home want w) (hb : Below w.heap.size w w') : SysAt Bd wb db lb y g D V home want w' :=
  ⟨h.row.below hb h.row.lt, h.hl, h.wl, h.dev.below hb, h.log.below hb h.log.lt, h.ne⟩
theorem Row.wantAt (h : Row w wb 66 (sysC g db lb home want)) (hl : home.length = 12) (wl : want.length = 12) : ∀ k, k < 12 → w.cell? ⟨wb, 23 + k, none⟩ = some (bval (want.getD k 0)) :=
  fun k hk => h.cellAt (23 + k) (sysC_wantAt hl wl hk)
theorem Row.homeAt (h : Row w wb 66 (sysC g db lb home want)) (hl : home.length = 12) (wl : want.length = 12) : ∀ k, k < 12 → w.cell? ⟨wb, 11 + k, none⟩ = some (bval (home.getD k 0)) :=
  fun k hk => h.cellAt (11 + k) (sysC_homeAt hl wl hk)
theorem Row.wantSeg (h : Row w wb 66 (sysC g db lb home want)) (hl : home.length = 12) : ∀ j v, (bcells want)[j]? = some v → w.cell? ⟨wb, 23 + j, none⟩ = some v := by
  rw [sysC_want] at h
  exact h.seg (by simp [Geo.cells, bcells_length, hl])
theorem Row.setHome (h : Row w wb 66 (sysC g db lb home want)) (hl : home.length = 12) (x : List UInt8) (hx : x.length = 12) : Row (w.setCells wb 11 (bcells x)) wb 66 (sysC g db lb x want) := by
  have := h.setCells (bcells x) 11
  rw [sysC_home] at this ⊢
  have e := setMany_mid (bcells x) (bcells home) ((Geo.cells g).toList ++ [.pointer (some ⟨db, 0, none⟩), .pointer (some ⟨lb, 0, none⟩)]) (bcells want) (by rw [bcells_length, bcells_length, hl, hx])
  rw [show ((Geo.cells g).toList ++ [Value.pointer (some ⟨db, 0, none⟩), Value.pointer (some ⟨lb, 0, none⟩)]).length = 11 by simp [Geo.cells]] at e
  rwa [e] at this
theorem Row.setWant (h : Row w wb 66 (sysC g db lb home want)) (hl : home.length = 12) (wl : want.length = 12) (x : List UInt8) (hx : x.length = 12) : Row (w.setCells wb 23 (bcells x)) wb 66 (sysC g db lb home x) := by
  have := h.setCells (bcells x) 23
  rw [sysC_want] at this ⊢
  have e := setMany_mid (bcells x) (bcells want) ((Geo.cells g).toList ++ ([.pointer (some ⟨db, 0, none⟩), .pointer (some ⟨lb, 0, none⟩)] ++ bcells home)) [] (by rw [bcells_length, bcells_length, wl, hx])
  rw [show ((Geo.cells g).toList ++ ([Value.pointer (some ⟨db, 0, none⟩), Value.pointer (some ⟨lb, 0, none⟩)] ++ bcells home)).length = 23 by simp [Geo.cells, bcells_length, hl]] at e
  rwa [e] at this
end
theorem str_same (S : ByteArray) : (S.toList == S.toList) = true := beq_self_eq_true _
theorem str_ne {S T : ByteArray} (h : S ≠ T) : (S.toList == T.toList) = false := by
  rw [beq_eq_false_iff_ne]
  intro e
  apply h
  obtain ⟨⟨a⟩⟩ := S
  obtain ⟨⟨b⟩⟩ := T
  have h1 : a = b := by simpa using e
  rw [h1]

set_option maxRecDepth 100000 in
set_option maxHeartbeats 4000000 in
theorem has_any {Bd wb db lb db2 : Nat} {y : Lay} {D : Dev} {g : Geo.G} {home want0 want h : List UInt8} (w : World) (hr : Row w wb 66 (sysC g db lb home want0)) (hD : DevAt Bd w db2 y D) (hg : Geo.May g) (hb : (D.kept.length : Int) = g.blocks) (hh : Sys.AtHome g h D.now) (hl : h.length = 12) (wl : want.length = 12) :
    Calls Tryz.prog 41 #[.pointer (some ⟨wb, 0, none⟩), .pointer (some ⟨db2, 0, none⟩), .agg (bcells want).toArray] w fun e w' => e = .returned (.bool (decide (h = want))) ∧ Below w.heap.size w w' := by
  have BA : Below w.heap.size w (w.alloc (.cells (bcells want).toArray 64)) := (Below.refl w.heap.size w).alloc (Nat.le_refl _) _
  have R := Lib.hid (Row.new w 64 (bcells want) rfl)
  have HW := Lib.hid (hr.alloc (.cells (bcells want).toArray 64))
  have HD := Lib.hid (hD.below BA)
  have HBA := Lib.hid BA
  have hwb := hr.lt
  have qF := Lib.hid (fun wx j => fill_any (want.getD j 0) wx)
  have qR : Hid (∀ (wx : World) (k : Nat), k < 12 → DevAt Bd wx db2 y D → Calls Tryz.prog 27 #[.pointer (some ⟨db2, 0, none⟩), .int .i64 (g.dataAt + (k : Int))] wx fun e w' => e = .returned (.tuple #[.string (blk (h.getD k 0)), .int .i64 0]) ∧ wx = w') := Lib.hid (fun wx k hk hx => by
    have h1 := read_any hx (g.dataAt + (k : Int))
    obtain ⟨f1, f2, f3, f4⟩ := Sys.hb_facts hg (k := k) (by omega)
    have e1 : D.ask (g.dataAt + (k : Int)) = 0 := by unfold Dev.ask; rw [if_neg (by omega)]
    have e2 : D.readS (g.dataAt + (k : Int)) = blk (h.getD k 0) := by
      unfold Dev.readS
      rw [if_neg (by omega), ← f3, Int.toNat_natCast]
      exact hh k hk
    rwa [e1, e2] at h1)
  have hga : Hid (∀ k : Nat, k < 12 → 0 ≤ g.dataAt ∧ g.dataAt + (k : Int) ≤ 10000) := Lib.hid (fun k hk => by
    obtain ⟨f1, f2, f3, f4⟩ := Sys.hb_facts hg (k := k) (by omega)
    have := hg.ok.1
    unfold Geo.asked at this
    omega)
  have HL := Lib.hid hl
  have WL := Lib.hid wl
  have hWr : w.heap.size < (w.alloc (.cells (bcells want).toArray 64)).heap.size := by simp
  unfold sysC Geo.cells at HW
  clear hr hD hg hb hh BA hl wl
  obtain ⟨g1, g2, g3, g4, g5, g6, g7, g8, g9⟩ := g
  dsimp only at *
  go_enter Tryz.func41, Tryz.ntmps41
  go_upto_region 1 with fail
  generalize w.alloc _ = w1 at *
  go_wp2_with fail
  go_loopw [7, 8, 9, 14] (fun k _ _ _ wr => ∃ j : Nat, j ≤ 12 ∧ k = .int .i64 (j : Int) ∧ Hid (∀ i, i < j → h.getD i 0 = want.getD i 0) ∧ Hid (Below w1.heap.size w1 wr)) (fun k _ _ _ _ => 12 - (intOf k).toNat)
  case atStart => exact ⟨0, by omega, rfl, Lib.hid (fun i hi => absurd hi (Nat.not_lt_zero _)), Lib.hid (Below.refl _ _)⟩
  case round =>
    obtain ⟨j, hj, rfl, hs, hb⟩ := hrel
    by_cases hlt : j < 12
    · have i1 : ((j : Int)) < 12 := by omega
      have c8 := (HW.out.below hb.out HW.out.lt).cellAt 8 rfl
      have RX := R.out.below hb.out hWr
      have cj : wr.cell? ⟨w.heap.size, j, none⟩ = some (bval (want.getD j 0)) := RX.cellAt j (bcells_at want j (by have := WL.out; omega))
      have ga := hga.out j hlt
      have q1 := Lib.hid (qR.out wr j hlt (HD.out.below hb.out))
      have q2 := Lib.hid (qF.out wr j)
      by_cases e : h.getD j 0 = want.getD j 0
      · rw [e] at q1
        have HN := Lib.hid (show ∀ i, i < j + 1 → h.getD i 0 = want.getD i 0 from fun i hi => by
          by_cases k : i = j
          · subst k; exact e
          · exact hs.out i (by omega))
        clear e RX
        generalize blk (want.getD j 0) = S at q1 q2
        generalize want.getD j 0 = x at *
        have hse := str_same S
        go_wp2_with (first | (go_at_call 27; refine q1.out.mono ?_; rintro e w2 ⟨rfl, rfl⟩) | (go_at_call 45; refine q2.out.mono ?_; rintro e w2 ⟨rfl, hb2⟩) | fail "none")
        go_roundw
        case rel => exact ⟨j + 1, by omega, by go_num, HN, Lib.hid (below_next hb.out hb2)⟩
        case measure => simp [intOf]; omega
      · have hne : h ≠ want := fun k => e (by rw [k])
        have hde : decide (h = want) = false := decide_eq_false hne
        have hse := str_ne (S := blk (h.getD j 0)) (T := blk (want.getD j 0)) (fun k => e (blk_inj k))
        clear e RX
        generalize blk (want.getD j 0) = S at q2 hse
        generalize blk (h.getD j 0) = T at q1 hse
        generalize want.getD j 0 = x at *
        have HDE := Lib.hid hde
        clear hde hne
        go_wp2_with (first | (go_at_call 27; refine q1.out.mono ?_; rintro e w2 ⟨rfl, rfl⟩) | (go_at_call 45; refine q2.out.mono ?_; rintro e w2 ⟨rfl, hb2⟩) | fail "none")
        go_ret
        exact ⟨by rw [HDE.out]; rfl, below_next HBA.out (below_next hb.out hb2)⟩
    · have hje : j = 12 := by omega
      have hde : decide (h = want) = true := decide_eq_true (by
        apply List.ext_getElem (by rw [HL.out, WL.out])
        intro i h3 h4
        have := hs.out i (by have := HL.out; omega)
        simpa [List.getD, h3, h4] using this)
      have HDE := Lib.hid hde
      have i1 : ¬ ((j : Int)) < 12 := by omega
      clear hde hje
      go_wp2_with fail
      go_ret
      exact ⟨by rw [HDE.out]; rfl, below_next HBA.out hb.out⟩
end Go.Proofs.YtnpdhidliaahbaaGreat

namespace Go.Proofs.YtnpdhidliaahbaaGreat
set_option linter.unusedVariables false
open Go Go.RowKit

/-- The value v leads to the bytes l. -/
def ByAt (w : World) (v : Value) (l : List UInt8) : Prop := ∃ ad cap, v = .slice ad l.length cap ∧ ∀ i, i < l.length → ∃ g off, ad = some ⟨g, off, none⟩ ∧ w.cell? ⟨g, off + i, none⟩ = some (.int .u8 ((l.getD i 0).toNat : Int))
theorem ByAt.below {w w' : World} {v : Value} {l : List UInt8} (h : ByAt w v l) (hb : Below w.heap.size w w') : ByAt w' v l := by
  obtain ⟨ad, cap, h1, h2⟩ := h
  refine ⟨ad, cap, h1, fun i hi => ?_⟩
  obtain ⟨g, off, e, hc⟩ := h2 i hi
  exact ⟨g, off, e, (hb.cell (p := ⟨g, off + i, none⟩) (World.block_lt_of_cell? w _ hc)).trans hc⟩
theorem ByAt.form {w : World} {v : Value} {l : List UInt8} (h : ByAt w v l) : ∃ ad cap, v = .slice ad l.length cap := by
  obtain ⟨ad, cap, h1, _⟩ := h
  exact ⟨ad, cap, h1⟩
theorem ByAt.cells {w : World} {ad : Option Addr} {n cap : Nat} {l : List UInt8} (h : ByAt w (.slice ad n cap) l) (i : Nat) (hi : i < l.length) : ∃ g off, ad = some ⟨g, off, none⟩ ∧ w.cell? ⟨g, off + i, none⟩ = some (.int .u8 ((l.getD i 0).toNat : Int)) := by
  obtain ⟨ad', cap', h1, h2⟩ := h
  cases h1
  exact h2 i hi
/-- The value v is the step x. -/
structure StepAt (w : World) (v : Value) (x : Sys.Step) : Prop where
  is : ∃ vc vr, v = .agg #[bval x.kind, vc, vr, bval x.fill, .bool x.data] ∧ ByAt w vc x.change ∧ ByAt w vr x.revoke
  len : x.change.length ≤ 9223372036854775807 ∧ x.revoke.length ≤ 9223372036854775807
theorem StepAt.below {w w' : World} {v : Value} {x : Sys.Step} (h : StepAt w v x) (hb : Below w.heap.size w w') : StepAt w' v x := by
  obtain ⟨⟨vc, vr, h1, h2, h3⟩, h4⟩ := h
  exact ⟨⟨vc, vr, h1, h2.below hb, h3.below hb⟩, h4⟩
/-- What behind so many of a list's bytes is set. -/
def fl (l : List UInt8) (n : Nat) : List Bool := (List.range 12).map fun k => (l.take n).any fun x => x.toNat % 12 == k
theorem fl_length (l : List UInt8) (n : Nat) : (fl l n).length = 12 := by unfold fl; simp
theorem fl_zero (l : List UInt8) : fl l 0 = List.replicate 12 false := by unfold fl; rfl
theorem fl_getD (l : List UInt8) (n k : Nat) (hk : k < 12) : (fl l n).getD k false = (l.take n).any fun x => x.toNat % 12 == k := by
  unfold fl
  simp [List.getD, hk]
theorem fl_succ (l : List UInt8) (n : Nat) (hn : n < l.length) : (fl l n).set ((l.getD n 0).toNat % 12) true = fl l (n + 1) := by
  have hx : (l.getD n 0).toNat % 12 < 12 := Nat.mod_lt _ (by decide)
  apply List.ext_getElem (by simp [fl_length])
  intro k h1 h2
  have hk : k < 12 := by rwa [List.length_set, fl_length] at h1
  have e : l.take (n + 1) = l.take n ++ [l.getD n 0] := by
    rw [List.take_succ_eq_append_getElem hn]
    simp [List.getD, hn]
  have e2 : (fl l (n + 1))[k]'h2 = (l.take (n + 1)).any fun x => x.toNat % 12 == k := by
    have := fl_getD l (n + 1) k hk
    rw [List.getD, List.getElem?_eq_getElem h2] at this
    exact this
  have h3 : k < (fl l n).length := by rw [fl_length]; exact hk
  have e3 : (fl l n)[k] = (l.take n).any fun x => x.toNat % 12 == k := by
    have := fl_getD l n k hk
    rw [List.getD, List.getElem?_eq_getElem h3] at this
    exact this
  rw [List.getElem_set]
  refine Eq.trans ?_ e2.symm
  rw [e, List.any_append, e3]
  generalize l.getD n 0 = z
  by_cases h : z.toNat % 12 = k
  · rw [if_pos h]; simp [h]
  · rw [if_neg h]; simp [h]
theorem fl_all (l : List UInt8) (k : Nat) (hk : k < 12) {n : Nat} (hn : n = min l.length 30) : (fl l n).getD k false = Sys.has l k := by
  rw [fl_getD l n k hk]
  unfold Sys.has
  subst hn
  rcases Nat.le_total l.length 30 with h | h
  · rw [Nat.min_eq_left h, List.take_length, List.take_of_length_le h]
  · rw [Nat.min_eq_right h]
theorem fcells_set (l : List Bool) (k : Nat) (b : Bool) : (fcells l).set k (.bool b) = fcells (l.set k b) := by
  unfold fcells
  rw [List.map_set]
theorem fcells_getD (l : List Bool) (k : Nat) (hk : k < l.length) : (fcells l)[k]? = some (.bool (l.getD k false)) := fcells_at l k hk
/-- A literal list of changes. -/
theorem ownC_lit (w : World) (a c : Int) (s t : ByteArray) : OwnC w.heap.size (w.alloc (.cells #[.int .i64 a, .string s, .int .i64 c, .string t] 68)) (.slice (some ⟨w.heap.size, 0, none⟩) 2 2) [(a, s), (c, t)] :=
  ⟨rfl, .inr ⟨w.heap.size, 2, _, rfl, Nat.le_refl _, heap_alloc_new w _, Nat.le_refl _, by unfold maxLen; decide, rfl, rfl⟩⟩
theorem OwnC.cap {B : Nat} {w : World} {v : Value} {l : List Jr.Chg} (h : OwnC B w v l) : ∀ ad n cap, v = .slice (some ad) n cap → n ≤ cap := by
  intro ad n cap e
  rcases h.2 with ⟨h1, _⟩ | ⟨g, c, cur, h1, _, _, h2, _⟩
  · rw [h1] at e; cases e
  · rw [h1] at e; cases e; exact h2
theorem OwnInts.cap {B : Nat} {w : World} {v : Value} {l : List Int} (h : OwnInts B w v l) : ∀ ad n cap, v = .slice (some ad) n cap → n ≤ cap := by
  intro ad n cap e
  rcases h.2 with ⟨h1, _⟩ | ⟨g, c, cur, h1, _, _, h2, _⟩
  · rw [h1] at e; cases e
  · rw [h1] at e; cases e; exact h2
end Go.Proofs.YtnpdhidliaahbaaGreat

namespace Go.Proofs.YtnpdhidliaahbaaGreat
set_option linter.unusedVariables false
open Go Go.RowKit

theorem homeA_take (g : Geo.G) (want : List UInt8) {j n : Nat} (h : j ≤ n) : (Sys.homeA g want n).take j = Sys.homeA g want j := by
  unfold Sys.homeA
  rw [← List.map_take, List.take_range, Nat.min_eq_left h]
theorem run_armed (a : Jr.Act) (D : Dev) : (a.run D).1.armed = D.armed := by
  cases a with
  | write b s =>
    rcases Jr.write_cases D b s with ⟨_, e⟩ | ⟨_, _, _, e, _⟩
    · show (D.write b s).armed = _; rw [e]
    · exact e
  | flush =>
    rcases Jr.flush_cases D with ⟨_, e⟩ | ⟨_, _, _, e, _⟩
    · show D.flush.armed = _; rw [e]
    · exact e
theorem doA_armed : ∀ (l : List Jr.Act) (D : Dev), (Jr.doA l D).1.armed = D.armed
  | [], D => rfl
  | a :: l, D => by
    rw [Jr.doA_cons]
    split
    · rw [doA_armed l, run_armed]
    · exact run_armed a D
/-- What settle leaves. -/
structure SettleOk (Bd wb db lb : Nat) (y : Lay) (g : Geo.G) (D : Dev) (V : LogV) (want : List UInt8) (K : Nat) (e : Ending) (w' : World) : Prop where
  is : e = .returned (.int .i64 0)
  D' : ∃ D' at_ q, D'.armed = D.armed ∧ SysAt Bd wb db lb y g D' ⟨V.place, 0, V.seq, 0⟩ want want w' ∧ Sys.Ok g D' ⟨V.place, 0, V.seq, 0⟩ want want at_ q [] K
structure SettleBad (Bd wb db lb : Nat) (y : Lay) (g : Geo.G) (D : Dev) (home want : List UInt8) (K : Nat) (e : Ending) (w' : World) : Prop where
  is : e = .returned (.int .i64 61)
  armed : D.armed = true
  D' : ∃ D' V', SysAt Bd wb db lb y g D' V' home want w' ∧ Sys.Dead g D' want want K
def SettleTold (Bd wb db lb : Nat) (y : Lay) (g : Geo.G) (D : Dev) (V : LogV) (home want : List UInt8) (K : Nat) (w : World) (e : Ending) (w' : World) : Prop :=
  (SettleOk Bd wb db lb y g D V want K e w' ∨ SettleBad Bd wb db lb y g D home want K e w') ∧ Only (wb :: lb :: devB db y) w w'

theorem DevAt.setCells {Bd g db : Nat} {y : Lay} {D : Dev} (hg : g ∉ devB db y) : ∀ (vs : List Value) (o : Nat) {w : World}, DevAt Bd w db y D → DevAt Bd (w.setCells g o vs) db y D
  | [], _, _, h => h
  | v :: r, o, w, h => by
    unfold World.setCells
    exact DevAt.setCells hg r (o + 1) (h.log g o v hg)
section
variable {Bd wb db lb : Nat} {y : Lay} {g : Geo.G} {D : Dev} {V : LogV} {home want : List UInt8} {at_ q K : Nat} {l : List Jr.Txn} {w : World}
theorem armed_of {L : List Jr.Act} {D : Dev} (h : (Jr.doA L D).2 = 61) : D.armed = true := by
  cases e : D.armed with
  | true => rfl
  | false => exact absurd h (Sys.unarmed L e).1
set_option maxRecDepth 100000 in
set_option maxHeartbeats 8000000 in
theorem settle_any (h : SysAt Bd wb db lb y g D V home want w) (ho : Sys.Ok g D V home want at_ q l K) (hK : K ≤ 100000000000) : Calls Tryz.prog 40 #[.pointer (some ⟨wb, 0, none⟩)] w fun e w' => SettleTold Bd wb db lb y g D V home want (K + 100) w e w' := by
  have hac := ho.dok.acts
  have hg := ho.may
  have hVf := ho.V
  have hpl := Jr.plc_of hg
  have hnum := ho.num
  have hlt0 : (at_ + Jr.sizes l) % Jr.plc g < Jr.plc g := Nat.mod_lt _ (by omega)
  -- what each part says, ahead of the walk
  have hwr : Hid (∀ (wx : World) (j : Nat), j < 12 → DevAt Bd wx db y (Jr.doA (Sys.homeA g want j) D).1 → (Jr.doA (Sys.homeA g want j) D).2 = 0 → Calls Tryz.prog 53 #[.pointer (some ⟨db, 0, none⟩), .int .i64 (g.dataAt + (j : Int)), .string (blk (want.getD j 0))] wx fun e w' => e = .returned (.int .i64 (Jr.doA (Sys.homeA g want (j + 1)) D).2) ∧ DevAt Bd w' db y (Jr.doA (Sys.homeA g want (j + 1)) D).1 ∧ Only (devB db y) wx w') := Lib.hid (fun wx j hj hd h0 => by
    have hb := (Jr.doA_acts (Sys.homeA g want j) D).1
    rw [Sys.homeA_length] at hb
    have h1 := write_any hd (g.dataAt + (j : Int)) (blk (want.getD j 0)) (by rw [blk_size]; decide) (by omega)
    have f3 := (Sys.hb_facts hg (k := j) (by omega)).2.2.1
    have e1 : Jr.doA (Sys.homeA g want (j + 1)) D = ((Jr.doA (Sys.homeA g want j) D).1.write (g.dataAt + (j : Int)) (blk (want.getD j 0)), (Jr.doA (Sys.homeA g want j) D).1.writeE (g.dataAt + (j : Int)) (blk (want.getD j 0))) := by
      rw [Sys.homeA_succ, Jr.doA_append, if_pos h0, Jr.doA_one, f3]
      rfl
    rw [e1]
    refine h1.mono ?_
    rintro e w' ⟨h2, h3, h4⟩
    exact ⟨h2, h3, h4.sub (by simp [devB])⟩)
  have hfl : Hid (∀ (wx : World) (j : Nat), Calls Tryz.prog 45 #[bval (want.getD j 0)] wx fun e w' => e = .returned (.string (blk (want.getD j 0))) ∧ Below wx.heap.size wx w') := Lib.hid (fun wx j => fill_any _ wx)
  have hga : Hid (∀ k : Nat, k < 12 → 0 ≤ g.dataAt ∧ g.dataAt + (k : Int) ≤ 10000) := Lib.hid (fun k hk => by
    obtain ⟨f1, f2, f3, f4⟩ := Sys.hb_facts hg (k := k) (by omega)
    have := hg.ok.1
    unfold Geo.asked at this
    omega)
  have hSz : Hid (∀ (j : Nat), j < 12 → (Jr.doA (Sys.homeA g want (j + 1)) D).2 ≠ 0 → ∀ w', Row w' wb 66 (sysC g db lb home want) → DevAt Bd w' db y (Jr.doA (Sys.homeA g want (j + 1)) D).1 → LogAt lb db g V w' → SettleBad Bd wb db lb y g D home want (K + 100) (.returned (.int .i64 (Jr.doA (Sys.homeA g want (j + 1)) D).2)) w') := Lib.hid (fun j hj h0 w' r1 d1 l1 => by
    have hst : Jr.doA (Sys.homeA g want 12) D = Jr.doA (Sys.homeA g want (j + 1)) D := by
      have := Jr.doA_stop (l := Sys.homeA g want 12) (D := D) (i := j + 1) (by rw [homeA_take g want (by omega)]; exact h0)
      rwa [homeA_take g want (by omega)] at this
    obtain ⟨s1, s2⟩ := ho.stopped (by rw [hst]; exact h0)
    rw [hst] at s1 s2
    exact ⟨by rw [s1], armed_of s1, _, V, ⟨r1, h.hl, h.wl, d1, l1, h.ne⟩, s2⟩)
  have hIdle : Hid (V.used = 0 → (Jr.doA (Sys.homeA g want 12) D).2 = 0 → ∀ w', SysAt Bd wb db lb y g (Jr.doA (Sys.homeA g want 12) D).1 V want want w' → SettleOk Bd wb db lb y g D V want (K + 100) (.returned (.int .i64 0)) w') := Lib.hid (fun hu h0 w' hs => by
    have h2 := ho.idle h0 hu
    have hV : V = ⟨V.place, 0, V.seq, 0⟩ := by
      rw [hVf] at hu ⊢
      have hu : Jr.sizes l = 0 := hu
      rw [hu]
    rw [hV] at h2 hs
    exact ⟨rfl, _, _, _, doA_armed _ _, hs, h2⟩)
  have hChk : Hid (V.used ≠ 0 → (Jr.doA (Sys.homeA g want 12) D).2 = 0 → ∀ (wx : World), DevAt Bd wx db y (Jr.doA (Sys.homeA g want 12) D).1 → LogAt lb db g V wx → Calls Tryz.prog 20 #[.pointer (some ⟨lb, 0, none⟩)] wx fun e w' => ∃ (E : Int) (D' : Dev) (V' : LogV), LogTold Bd db lb y g E D' V' wx e w' ∧ ((E = 0 ∧ D'.armed = D.armed ∧ V' = ⟨V.place, 0, V.seq, 0⟩ ∧ Sys.Ok g D' ⟨V.place, 0, V.seq, 0⟩ want want (V.place % Jr.plc g) V.seq [] (K + 100)) ∨ (E = 61 ∧ D.armed = true ∧ Sys.Dead g D' want want (K + 100)))) := Lib.hid (fun hu h0 wx hd hL => by
    have hb := (Jr.doA_acts (Sys.homeA g want 12) D).1
    rw [Sys.homeA_length] at hb
    have hV0 : V.place ≤ 4611686018427387904 ∧ V.seq < 2 ^ 64 ∧ V.bad = 0 := by
      rw [hVf]
      exact ⟨by show (at_ + Jr.sizes l) % Jr.plc g ≤ _; omega, by show q + l.length < _; omega, rfl⟩
    have h1 := checkpoint_any wx hd hL h.ne.2.2 hg hV0.2.2 hu hV0.1 hV0.2.1 (by omega)
    refine h1.mono ?_
    intro e w' h2
    refine ⟨_, _, _, h2, ?_⟩
    rcases ho.check h0 with ⟨k1, k2, _⟩ | ⟨k1, k2⟩
    · left
      refine ⟨k1, ?_, ?_, k2⟩
      · rw [doA_armed, doA_armed]
      · rw [k1, if_pos rfl]
    · right
      refine ⟨k1, ?_, k2⟩
      have := armed_of k1
      rwa [doA_armed] at this)
  have hIdl2 : Hid (V.used = 0 → ∀ (wx : World), LogAt lb db g V wx → Calls Tryz.prog 20 #[.pointer (some ⟨lb, 0, none⟩)] wx fun e w' => e = .returned (.int .i64 0) ∧ Below wx.heap.size wx w') := Lib.hid (fun hu wx hL => by
    have := checkpoint_idle wx hL (.inr hu)
    rwa [show V.bad = 0 from by rw [hVf]] at this)
  obtain ⟨hr, hl, wl, hD, hL, hne⟩ := h
  have hB0 := hD.bounds
  have h00 : (Jr.doA (Sys.homeA g want 0) D).2 = 0 := rfl
  have h0D : (Jr.doA (Sys.homeA g want 0) D).1 = D := rfl
  have HD0 : Hid (DevAt Bd w db y (Jr.doA (Sys.homeA g want 0) D).1) := Lib.hid (by rw [h0D]; exact hD)
  have HR := Lib.hid hr
  have HLG := Lib.hid hL
  have HNE := Lib.hid hne
  have HHL := Lib.hid hl
  have HWL := Lib.hid wl
  obtain ⟨U, hU⟩ : ∃ U, V.used = U := ⟨_, rfl⟩
  have HU := Lib.hid hU
  clear hr hD hL hne hl wl h0D ho hg hVf hpl hnum hlt0 hac hK
  obtain ⟨DV, hDV⟩ : ∃ DV : Nat → Dev × Int, ∀ j, Jr.doA (Sys.homeA g want j) D = DV j := ⟨_, fun _ => rfl⟩
  simp only [hDV] at *
  clear hDV
  have H00 := Lib.hid h00
  clear h00
  obtain ⟨G9, hG9⟩ : ∃ z, g.dataAt = z := ⟨_, rfl⟩
  have KEEP : Hid (∀ (wz : World) (j : Nat), j < 12 → Row wz wb 66 (sysC g db lb home want) → wz.cell? ⟨wb, 9, none⟩ = some (.pointer (some ⟨db, 0, none⟩)) ∧ wz.cell? ⟨wb, 8, none⟩ = some (.int .i64 G9) ∧ wz.cell? ⟨wb, 23 + j, none⟩ = some (bval (want.getD j 0))) := Lib.hid (fun wz j hj h => ⟨h.cellAt 9 rfl, by rw [← hG9]; exact h.cellAt 8 rfl, h.wantAt HHL.out HWL.out j hj⟩)
  simp only [hG9] at hwr hga
  clear hG9
  go_enter Tryz.func40, Tryz.ntmps40
  go_wp2_with fail
  go_loopw [3, 4] (fun k u wr => ∃ j : Nat, j ≤ 12 ∧ k = .int .i64 (j : Int) ∧ Hid ((DV j).2 = 0) ∧ Hid (Row wr wb 66 (sysC g db lb home want)) ∧ Hid (DevAt Bd wr db y (DV j).1) ∧ Hid (LogAt lb db g V wr) ∧ Hid (Only (wb :: lb :: devB db y) w wr)) (fun k _ _ => 12 - (intOf k).toNat)
  case atStart => exact ⟨0, by omega, rfl, H00, HR, HD0, HLG, Lib.hid (Only.refl _ _)⟩
  case round =>
    obtain ⟨j, hj, rfl, h0, hR, hD, hL, hO⟩ := hrel
    by_cases hlt : j < 12
    · have i1 : ((j : Int)) < 12 := by omega
      have ga := hga.out j hlt
      have qw := Lib.hid (fun wx hd => hwr.out wx j hlt hd h0.out)
      have qf := Lib.hid (fun wx => hfl.out wx j)
      obtain ⟨E, hE⟩ : ∃ E, (DV (j + 1)).2 = E := ⟨_, rfl⟩
      have HE := Lib.hid hE
      rw [hE] at qw
      clear hE
      have K1 := Lib.hid (fun wz h => KEEP.out wz j hlt h)
      obtain ⟨x, hx⟩ : ∃ x, want.getD j 0 = x := ⟨_, rfl⟩
      rw [hx] at qw qf K1
      have s0 := K1.out _ hR.out
      obtain ⟨c9, c8, cj⟩ := s0
      clear hx
      have hwz : IntKind.i64.wrap (G9 + (j : Int)) = G9 + (j : Int) := IntWalk.i64_in _ (by omega)
      go_wp2_with fail
      go_region_held3 (fun w' => w'.cell? ⟨wb, 9, none⟩ = some (.pointer (some ⟨db, 0, none⟩)) ∧ w'.cell? ⟨wb, 8, none⟩ = some (.int .i64 G9) ∧ w'.cell? ⟨wb, 23 + j, none⟩ = some (bval x))
        (first | exact ⟨c9, c8, cj⟩ | exact s8 | exact s6)
        (first | (go_at_call 45; (with_reducible refine (qf.out _).mono ?_); rintro e w6 ⟨rfl, hb6'⟩; have hb6 : Below wr.heap.size wr w6 := ⟨hb6'.os, hb6'.tape, hb6'.output, hb6'.size, hb6'.block⟩; have R6 := hR.out.below hb6 hR.out.lt; have s6 := K1.out _ R6) | (go_at_call 53; (with_reducible refine (qw.out _ (hD.out.below hb6)).mono ?_); rintro e w8 ⟨rfl, hd8, ho8⟩; have R8 := ho8.row R6 HNE.out.2.1; have s8 := K1.out _ R8) | fail "none")
      have HD8 := Lib.hid hd8
      have HR8 := Lib.hid R8
      have HL8 : Hid (LogAt lb db g V w8) := Lib.hid (ho8.row (hL.out.below hb6 hL.out.lt) HNE.out.2.2)
      have HO8 := Lib.hid ((hO.out.trans (Only.ofBelow hb6)).trans (ho8.sub (fun k hk => List.mem_cons_of_mem _ (List.mem_cons_of_mem _ hk))))
      clear hd8 R8 ho8 hb6 hb6' R6 qw qf cj c8 c9 s6 s8 K1
      by_cases hE0 : E = 0
      · subst hE0
        go_wp2_with fail
        go_roundw
        case rel => exact ⟨j + 1, by omega, by go_num, HE, HR8, HD8, HL8, HO8⟩
        case measure => simp [intOf]; omega
      · go_wp2_with fail
        go_ret
        have hs := hSz.out j hlt (by rw [HE.out]; exact hE0) _ HR8.out HD8.out HL8.out
        rw [HE.out] at hs
        exact ⟨.inr hs, HO8.out⟩
    · have hje : j = 12 := by omega
      subst hje
      have i1 : ¬ (((12 : Nat) : Int)) < 12 := by omega
      have c10 := hR.out.cellAt 10 rfl
      by_cases hu : U = 0
      · have qi := Lib.hid (hIdl2.out (HU.out.trans hu) _ hL.out)
        have qz := Lib.hid (hIdle.out (HU.out.trans hu) h0.out)
        clear hu
        go_upto_region 9 with (first | (go_at_call 20; refine qi.out.mono ?_; rintro e w6 ⟨rfl, hb6⟩) | fail "none")
        have R6 := hR.out.below hb6 hR.out.lt
        have RN := Lib.hid (R6.setHome HHL.out want HWL.out)
        have hs := Only.setCells (S := wb :: lb :: devB db y) (List.mem_cons_self) (bcells want) 11 w6
        have HO := Lib.hid ((hO.out.trans (Only.ofBelow hb6)).trans hs)
        have HDN : Hid (DevAt Bd (w6.setCells wb 11 (bcells want)) db y (DV 12).1) := Lib.hid ((hD.out.below hb6).setCells HNE.out.2.1 _ _)
        have HLN : Hid (LogAt lb db g V (w6.setCells wb 11 (bcells want))) := Lib.hid (Row.setCellsOther HNE.out.1 _ _ (hL.out.below hb6 hL.out.lt))
        have hsg := R6.wantSeg HHL.out
        have hso : ∀ j, j < (bcells want).length → (w6.cell? ⟨wb, 11 + j, none⟩).isSome = true := R6.segSome (by rw [sysC_len HHL.out HWL.out, bcells_length, HWL.out]; omega)
        have hsf : ∀ j, j < (bcells want).length → w6.frozen? ⟨wb, 11 + j, none⟩ = false := R6.segFree (by rw [sysC_len HHL.out HWL.out, bcells_length, HWL.out]; omega)
        have hSG := Lib.hid hsg
        have hSO := Lib.hid hso
        have hSF := Lib.hid hsf
        clear R6 hb6 c10 qi hs hsg hso hsf
        go_wp2_with (first | refine wpList_load_seg rfl _ _ rfl wb 23 rfl (bcells want) _ hSG.out Tryz.underlying64 rfl (by rw [bcells_length, HWL.out]; kernel_rfl) ?_ | refine wpList_store_seg rfl _ _ _ rfl wb 11 (bcells want) rfl rfl (by rw [bcells_length, HWL.out]; kernel_rfl) hSO.out hSF.out (bcells_one _) ?_ | fail "none")
        go_ret
        exact ⟨.inl (qz.out _ ⟨RN.out, HWL.out, HWL.out, HDN.out, HLN.out, HNE.out⟩), HO.out⟩
      · have qi := Lib.hid (hChk.out (fun k => hu (HU.out.symm.trans k)) h0.out _ hD.out hL.out)
        clear hu
        go_upto_region 8 with (first | (go_at_call 20; refine qi.out.mono ?_; rintro e w6 ⟨E, D', V', ⟨rfl, hd6, hl6, ho6⟩, hcase⟩) | fail "none")
        have R6 := ho6.row hR.out (by
          intro k
          rcases List.mem_cons.1 k with k | k
          · exact HNE.out.1 k
          · exact HNE.out.2.1 k)
        have HO6 := Lib.hid (hO.out.trans (ho6.sub (fun k hk => List.mem_cons_of_mem _ hk)))
        rcases hcase with ⟨rfl, harm, rfl, hok⟩ | ⟨rfl, harm, hdd⟩
        · have RN := Lib.hid (R6.setHome HHL.out want HWL.out)
          have hs := Only.setCells (S := wb :: lb :: devB db y) (List.mem_cons_self) (bcells want) 11 w6
          have HO := Lib.hid (HO6.out.trans hs)
          have HDN : Hid (DevAt Bd (w6.setCells wb 11 (bcells want)) db y D') := Lib.hid (hd6.setCells HNE.out.2.1 _ _)
          have HLN : Hid (LogAt lb db g ⟨V.place, 0, V.seq, 0⟩ (w6.setCells wb 11 (bcells want))) := Lib.hid (Row.setCellsOther HNE.out.1 _ _ hl6)
          have hSG := Lib.hid (R6.wantSeg HHL.out)
          have hSO : Hid (∀ j, j < (bcells want).length → (w6.cell? ⟨wb, 11 + j, none⟩).isSome = true) := Lib.hid (R6.segSome (by rw [sysC_len HHL.out HWL.out, bcells_length, HWL.out]; omega))
          have hSF : Hid (∀ j, j < (bcells want).length → w6.frozen? ⟨wb, 11 + j, none⟩ = false) := Lib.hid (R6.segFree (by rw [sysC_len HHL.out HWL.out, bcells_length, HWL.out]; omega))
          have HARM := Lib.hid harm
          have HOK := Lib.hid hok
          clear R6 c10 qi hs hd6 hl6 ho6 harm hok
          go_wp2_with (first | refine wpList_load_seg rfl _ _ rfl wb 23 rfl (bcells want) _ hSG.out Tryz.underlying64 rfl (by rw [bcells_length, HWL.out]; kernel_rfl) ?_ | refine wpList_store_seg rfl _ _ _ rfl wb 11 (bcells want) rfl rfl (by rw [bcells_length, HWL.out]; kernel_rfl) hSO.out hSF.out (bcells_one _) ?_ | fail "none")
          go_ret
          exact ⟨.inl ⟨rfl, D', _, _, HARM.out, ⟨RN.out, HWL.out, HWL.out, HDN.out, HLN.out, HNE.out⟩, HOK.out⟩, HO.out⟩
        · have HR6 := Lib.hid R6
          have HD6 := Lib.hid hd6
          have HL6 := Lib.hid hl6
          have HARM := Lib.hid harm
          have HDD := Lib.hid hdd
          clear R6 c10 qi hd6 hl6 ho6 harm hdd
          go_wp2_with fail
          go_ret
          exact ⟨.inr ⟨rfl, HARM.out, D', V', ⟨HR6.out, HHL.out, HWL.out, HD6.out, HL6.out, HNE.out⟩, HDD.out⟩, HO6.out⟩
end
end Go.Proofs.YtnpdhidliaahbaaGreat

namespace Go.Proofs.YtnpdhidliaahbaaGreat
set_option linter.unusedVariables false
open Go Go.RowKit

/-- The layout of three numbers. -/
def layG (a b c : Nat) : Geo.G := Geo.lay ((256 + a % 60 : Nat) : Int) ((128 + b % 20 : Nat) : Int) ((8 + 2 * (c % 4) : Nat) : Int)
theorem layG_of (a b c : Nat) : Geo.of ((256 + a % 60 : Nat) : Int) ((128 + b % 20 : Nat) : Int) ((8 + 2 * (c % 4) : Nat) : Int) = (layG a b c, 0) := by
  unfold Geo.of layG
  rw [if_pos]
  unfold Geo.asked Geo.lay
  dsimp only
  omega
theorem layG_may (a b c : Nat) : Geo.May (layG a b c) := layG_of a b c
theorem layG_blocks (a b c : Nat) : (layG a b c).blocks = ((256 + a % 60 : Nat) : Int) := rfl
set_option maxRecDepth 100000 in
set_option maxHeartbeats 4000000 in
theorem layout_any (a b c : UInt8) (w : World) : Calls Tryz.prog 47 #[.agg #[bval a, bval b, bval c]] w fun e w' => e = .returned (.agg (Geo.cells (layG a.toNat b.toNat c.toNat))) ∧ Below w.heap.size w w' := by
  have qO := Lib.hid (fun wz => of_any ((256 + a.toNat % 60 : Nat) : Int) ((128 + b.toNat % 20 : Nat) : Int) ((8 + 2 * (c.toNat % 4) : Nat) : Int) wz)
  rw [layG_of] at qO
  obtain ⟨G, hG⟩ : ∃ G, layG a.toNat b.toNat c.toNat = G := ⟨_, rfl⟩
  rw [hG] at qO ⊢
  clear hG
  unfold bval
  have ha := a.toNat_lt
  have hb := b.toNat_lt
  have hc := c.toNat_lt
  generalize a.toNat = A0 at *
  generalize b.toNat = B0 at *
  generalize c.toNat = C0 at *
  have ma : ((A0 : Int)).tmod 60 = ((A0 % 60 : Nat) : Int) := by rw [Int.tmod_eq_emod_of_nonneg (by omega)]; omega
  have mb : ((B0 : Int)).tmod 20 = ((B0 % 20 : Nat) : Int) := by rw [Int.tmod_eq_emod_of_nonneg (by omega)]; omega
  have mc : ((C0 : Int)).tmod 4 = ((C0 % 4 : Nat) : Int) := by rw [Int.tmod_eq_emod_of_nonneg (by omega)]; omega
  have ma2 : ((A0 : Int)) % 60 = ((A0 % 60 : Nat) : Int) := by omega
  have mb2 : ((B0 : Int)) % 20 = ((B0 % 20 : Nat) : Int) := by omega
  have mc2 : ((C0 : Int)) % 4 = ((C0 % 4 : Nat) : Int) := by omega
  have la : A0 % 60 < 60 := Nat.mod_lt _ (by decide)
  have lb : B0 % 20 < 20 := Nat.mod_lt _ (by decide)
  have lc : C0 % 4 < 4 := Nat.mod_lt _ (by decide)
  have qO2 : Hid (∀ wz, Calls Tryz.prog 57 #[.int .i64 (256 + ((A0 % 60 : Nat) : Int)), .int .i64 (128 + ((B0 % 20 : Nat) : Int)), .int .i64 (8 + 2 * ((C0 % 4 : Nat) : Int))] wz fun e w' => e = .returned (.tuple #[.agg (Geo.cells G), .int .i64 0]) ∧ Below wz.heap.size wz w') := Lib.hid (fun wz => by
    have := qO.out wz
    simpa using this)
  clear qO ha hb hc
  generalize A0 % 60 = A1 at *
  generalize B0 % 20 = B1 at *
  generalize C0 % 4 = C1 at *
  have w1 : IntKind.i64.wrap (256 + (A1 : Int)) = 256 + (A1 : Int) := IntWalk.i64_in _ (by omega)
  have w2 : IntKind.i64.wrap (128 + (B1 : Int)) = 128 + (B1 : Int) := IntWalk.i64_in _ (by omega)
  have w3 : IntKind.i64.wrap (2 * (C1 : Int)) = 2 * (C1 : Int) := IntWalk.i64_in _ (by omega)
  have w4 : IntKind.i64.wrap (8 + 2 * (C1 : Int)) = 8 + 2 * (C1 : Int) := IntWalk.i64_in _ (by omega)
  unfold Geo.cells at *
  obtain ⟨g1, g2, g3, g4, g5, g6, g7, g8, g9⟩ := G
  dsimp only at *
  go_enter Tryz.func47, Tryz.ntmps47
  go_upto_region 1 with fail
  generalize hW : World.alloc _ _ = w1
  have hB1 : Below w.heap.size w w1 := by rw [← hW]; exact below_box (below_box (Below.refl _ _) _) _
  have q0 : Row w1 w.heap.size 54 [.int .u8 (A0 : Int), .int .u8 (B0 : Int), .int .u8 (C0 : Int)] := by rw [← hW]; exact (Row.new w _ _ rfl).alloc _
  have q1 : Row w1 (w.heap.size + 1) 30 [.int .i64 0, .int .i64 0, .int .i64 0, .int .i64 0, .int .i64 0, .int .i64 0, .int .i64 0, .int .i64 0, .int .i64 0] := by rw [← hW]; exact Row.new _ _ _ (by simp)
  clear hW
  have x0 := q0.cellAt 0 rfl
  have x1 := q0.cellAt 1 rfl
  have x2 := q0.cellAt 2 rfl
  have HB1 := Lib.hid hB1
  have HQ1 := Lib.hid q1
  clear hB1 q0 q1
  go_upto_region 2 with (first | (go_at_call 57; (with_reducible refine (qO2.out _).mono ?_); rintro e w6 ⟨rfl, hb6⟩) | fail "none")
  have R6 := HQ1.out.below hb6 HQ1.out.lt
  have hlt6 := R6.lt
  have B7 := Lib.hid (below_box (below_next HB1.out hb6) (.cells #[.int .i64 g1, .int .i64 g2, .int .i64 g3, .int .i64 g4, .int .i64 g5, .int .i64 g6, .int .i64 g7, .int .i64 g8, .int .i64 g9] 30))
  have R7 := Lib.hid (Row.new w6 30 [.int .i64 g1, .int .i64 g2, .int .i64 g3, .int .i64 g4, .int .i64 g5, .int .i64 g6, .int .i64 g7, .int .i64 g8, .int .i64 g9] rfl)
  have RR7 := Lib.hid (R6.alloc (.cells #[.int .i64 g1, .int .i64 g2, .int .i64 g3, .int .i64 g4, .int .i64 g5, .int .i64 g6, .int .i64 g7, .int .i64 g8, .int .i64 g9] 30))
  clear R6 hb6 x0 x1 x2 hlt6
  generalize w6.alloc _ = w7 at *
  have k0 := R7.out.cellAt 0 rfl; have k1 := R7.out.cellAt 1 rfl; have k2 := R7.out.cellAt 2 rfl; have k3 := R7.out.cellAt 3 rfl; have k4 := R7.out.cellAt 4 rfl; have k5 := R7.out.cellAt 5 rfl; have k6 := R7.out.cellAt 6 rfl; have k7 := R7.out.cellAt 7 rfl; have k8 := R7.out.cellAt 8 rfl
  have z0 := RR7.out.cellAt 0 rfl; have z1 := RR7.out.cellAt 1 rfl; have z2 := RR7.out.cellAt 2 rfl; have z3 := RR7.out.cellAt 3 rfl; have z4 := RR7.out.cellAt 4 rfl; have z5 := RR7.out.cellAt 5 rfl; have z6 := RR7.out.cellAt 6 rfl; have z7 := RR7.out.cellAt 7 rfl; have z8 := RR7.out.cellAt 8 rfl
  have f0 := RR7.out.free 0 (by simp); have f1 := RR7.out.free 1 (by simp); have f2 := RR7.out.free 2 (by simp); have f3 := RR7.out.free 3 (by simp); have f4 := RR7.out.free 4 (by simp); have f5 := RR7.out.free 5 (by simp); have f6 := RR7.out.free 6 (by simp); have f7 := RR7.out.free 7 (by simp); have f8 := RR7.out.free 8 (by simp)
  go_wp2_with fail
  have SET := (((((((((RR7.out.set 0 (.int .i64 g1)).set 1 (.int .i64 g2)).set 2 (.int .i64 g3)).set 3 (.int .i64 g4)).set 4 (.int .i64 g5)).set 5 (.int .i64 g6)).set 6 (.int .i64 g7)).set 7 (.int .i64 g8)).set 8 (.int .i64 g9))
  have BS := (((((((((B7.out.setCell (p := ⟨w.heap.size + 1, 0, none⟩) (by simp) (.int .i64 g1)).setCell (p := ⟨w.heap.size + 1, 1, none⟩) (by simp) (.int .i64 g2)).setCell (p := ⟨w.heap.size + 1, 2, none⟩) (by simp) (.int .i64 g3)).setCell (p := ⟨w.heap.size + 1, 3, none⟩) (by simp) (.int .i64 g4)).setCell (p := ⟨w.heap.size + 1, 4, none⟩) (by simp) (.int .i64 g5)).setCell (p := ⟨w.heap.size + 1, 5, none⟩) (by simp) (.int .i64 g6)).setCell (p := ⟨w.heap.size + 1, 6, none⟩) (by simp) (.int .i64 g7)).setCell (p := ⟨w.heap.size + 1, 7, none⟩) (by simp) (.int .i64 g8)).setCell (p := ⟨w.heap.size + 1, 8, none⟩) (by simp) (.int .i64 g9))
  generalize World.setCell _ _ _ = w8 at *
  have hl := run_loadVar_seg (P := Tryz.prog) w8 (w.heap.size + 1) 0 30 [.int .i64 g1, .int .i64 g2, .int .i64 g3, .int .i64 g4, .int .i64 g5, .int .i64 g6, .int .i64 g7, .int .i64 g8, .int .i64 g9] _ (fun j v hv => by rw [Nat.zero_add]; exact SET.cellAt j hv) Tryz.underlying30 rfl (by kernel_rfl)
  refine bodyPost_ret (v := .agg #[.int .i64 g1, .int .i64 g2, .int .i64 g3, .int .i64 g4, .int .i64 g5, .int .i64 g6, .int .i64 g7, .int .i64 g8, .int .i64 g9]) (by simp [results, Tryz.results47, asAddr, Sem.run_bind, hl]) rfl ?_
  exact ⟨rfl, BS⟩
theorem DevAt.monoS {B B' b : Nat} {w : World} {y : Lay} {D : Dev} (h : DevAt B w b y D) (hB : B' ≤ B) : DevAt B' w b y D := ⟨Nat.le_trans hB h.own, h.cells, own_mono h.kept hB, own_mono h.now hB, own_mono h.pend hB, h.ne, h.pos, h.left, h.acts⟩
def zb12 : List UInt8 := List.replicate 12 0
/-- The device of a world that is begun. -/
def devG (a b c : Nat) : Dev := (Jr.doA (Jr.fmtA (layG a b c)) (Dev.fresh (List.replicate (256 + a % 60) zblock))).1
theorem devG_ok (a b c : Nat) : (Jr.doA (Jr.fmtA (layG a b c)) (Dev.fresh (List.replicate (256 + a % 60) zblock))).2 = 0 ∧ Sys.Ok (layG a b c) (devG a b c) ⟨0, 0, 1, 0⟩ zb12 zb12 0 1 [] 600 ∧ (devG a b c).armed = false ∧ (devG a b c).kept = (devG a b c).now := by
  have hg := layG_may a b c
  have hlen : ((Dev.fresh (List.replicate (256 + a % 60) zblock)).kept.length : Int) = (layG a b c).blocks := by show ((List.replicate (256 + a % 60) zblock).length : Int) = _; rw [List.length_replicate]; rfl
  have hz : sized (List.replicate (256 + a % 60) zblock) := fun s hs => by rw [(List.mem_replicate.1 hs).2]; exact zblock_size
  have h0 : (Jr.doA (Jr.fmtA (layG a b c)) (Dev.fresh (List.replicate (256 + a % 60) zblock))).2 = 0 := by
    rcases Jr.doA_err (Jr.fmtA (layG a b c)) (D := Dev.fresh (List.replicate (256 + a % 60) zblock)) rfl (Jr.fmt_fine hg hlen) with h | h
    · exact h
    · exact absurd h (Sys.unarmed _ rfl).1
  obtain ⟨s1, s2⟩ := Sys.begun (K := 0) (home := zb12) hg (Dev.Ok.fresh _ hz) hlen (fun k hk => by
    have f2 := (Sys.hb_facts hg (k := k) (by omega)).2.1
    rw [layG_blocks, Int.toNat_natCast] at f2
    show Jr.blk (List.replicate (256 + a % 60) zblock) _ = _
    unfold Jr.blk zb12
    rw [List.getD_eq_getElem?_getD, List.getElem?_replicate, if_pos f2, List.getD_eq_getElem?_getD, List.getElem?_replicate, if_pos hk]
    exact zblock_blk) rfl h0
  rw [Nat.zero_add] at s1
  exact ⟨h0, s1, (Sys.unarmed _ rfl).2, s2⟩
set_option maxRecDepth 100000 in
set_option maxHeartbeats 8000000 in
theorem begun_any (a b c : UInt8) (w : World) : Calls Tryz.prog 22 #[.agg #[bval a, bval b, bval c]] w fun e w' => ∃ wb db lb y, e = .returned (.tuple #[.pointer (some ⟨wb, 0, none⟩), .bool true]) ∧ SysAt w.heap.size wb db lb y (layG a.toNat b.toNat c.toNat) (devG a.toNat b.toNat c.toNat) ⟨0, 0, 1, 0⟩ zb12 zb12 w' ∧ w.heap.size ≤ wb ∧ w.heap.size ≤ lb ∧ Below w.heap.size w w' := by
  have hg := layG_may a.toNat b.toNat c.toNat
  obtain ⟨hE, hok, harm, hkn⟩ := devG_ok a.toNat b.toNat c.toNat
  have qL := Lib.hid (fun wz => layout_any a b c wz)
  have qN : Hid (∀ wz, Calls Tryz.prog 48 #[.int .i64 (layG a.toNat b.toNat c.toNat).blocks] wz fun e w' => ∃ db, e = .returned (.tuple #[.pointer (some ⟨db, 0, none⟩), .int .i64 0]) ∧ (∃ y, DevAt wz.heap.size w' db y (Dev.fresh (List.replicate (256 + a.toNat % 60) zblock))) ∧ Below wz.heap.size wz w') := Lib.hid (fun wz => by
    rw [layG_blocks]
    exact newdev_any (256 + a.toNat % 60) (by omega))
  have qF : Hid (∀ (Bd db : Nat) (y : Lay) (wz : World), DevAt Bd wz db y (Dev.fresh (List.replicate (256 + a.toNat % 60) zblock)) → Calls Tryz.prog 21 #[.pointer (some ⟨db, 0, none⟩), .agg (Geo.cells (layG a.toNat b.toNat c.toNat))] wz fun e w' => e = .returned (.int .i64 0) ∧ DevAt Bd w' db y (devG a.toNat b.toNat c.toNat) ∧ Only (devB db y) wz w') := Lib.hid (fun Bd db y wz hD => by
    have h := format_ok (layG a.toNat b.toNat c.toNat) wz hD hg (by show ((List.replicate (256 + a.toNat % 60) zblock).length : Int) = _; rw [List.length_replicate]; rfl) (by show (0 : Int) + 600 < _; omega)
    rw [hE] at h
    exact h)
  have hlen : (devG a.toNat b.toNat c.toNat).now.length = (devG a.toNat b.toNat c.toNat).kept.length := hok.dok.len
  have hread : Jr.readL (layG a.toNat b.toNat c.toNat) (devG a.toNat b.toNat c.toNat).now = some ⟨0, 1, [], 0⟩ := (hok.all.atNow hlen).2.read hg
  have qO : Hid (∀ (Bd db : Nat) (y : Lay) (wz : World), DevAt Bd wz db y (devG a.toNat b.toNat c.toNat) → Calls Tryz.prog 16 #[.pointer (some ⟨db, 0, none⟩), .agg (Geo.cells (layG a.toNat b.toNat c.toNat))] wz fun e w' => ∃ lb, e = .returned (.tuple #[.pointer (some ⟨lb, 0, none⟩), .int .i64 0]) ∧ LogAt lb db (layG a.toNat b.toNat c.toNat) ⟨0, 0, 1, 0⟩ w' ∧ wz.heap.size ≤ lb ∧ Below wz.heap.size wz w') := Lib.hid (fun Bd db y wz hD => by
    have h := openlog_ok (layG a.toNat b.toNat c.toNat) wz hD hg hok.blocks hok.dok.now hlen
    rw [hread] at h
    refine h.mono ?_
    intro e w' h
    rcases h with ⟨h, _⟩ | ⟨L, lb, h, he, h1, h2, h3⟩
    · cases h
    · cases h
      refine ⟨lb, he, ?_, h2, h3⟩
      have e0 : (⟨0, 1, [], 0⟩ : Jr.Log).v (layG a.toNat b.toNat c.toNat) = ⟨0, 0, 1, 0⟩ := by
        unfold Jr.Log.v Jr.Log.place Jr.Log.next
        dsimp only
        rw [Nat.zero_add, Nat.zero_mod]
        rfl
      rwa [e0] at h1)
  have qR : Hid (∀ (db lb : Nat) (wz : World), LogAt lb db (layG a.toNat b.toNat c.toNat) ⟨0, 0, 1, 0⟩ wz → Calls Tryz.prog 17 #[.pointer (some ⟨lb, 0, none⟩)] wz fun e w' => e = .returned (.int .i64 ((layG a.toNat b.toNat c.toNat).log - 1)) ∧ Below wz.heap.size wz w') := Lib.hid (fun db lb wz hL => by
    have h := room_any hg wz hL (by decide)
    rw [(Jr.plc_of hg).2.2] at h
    simpa using h)
  have hlg : Hid (0 ≤ (layG a.toNat b.toNat c.toNat).log - 1 ∧ (layG a.toNat b.toNat c.toNat).log ≤ 100000) := Lib.hid (by have := hg.ok.1; unfold Geo.asked at this; omega)
  clear hE hok harm hkn hlen hread hg
  obtain ⟨D1, hD1⟩ : ∃ D1, devG a.toNat b.toNat c.toNat = D1 := ⟨_, rfl⟩
  rw [hD1] at qF qO ⊢
  clear hD1
  obtain ⟨G, hG⟩ : ∃ G, layG a.toNat b.toNat c.toNat = G := ⟨_, rfl⟩
  rw [hG] at qL qN qF qO qR hlg ⊢
  clear hG
  have hlg2 := hlg.out
  unfold Geo.cells at *
  generalize bval a = va at *
  generalize bval b = vb at *
  generalize bval c = vc at *
  obtain ⟨g1, g2, g3, g4, g5, g6, g7, g8, g9⟩ := G
  dsimp only at *
  have hw2 : IntKind.i64.wrap (g2 - 1) = g2 - 1 := IntWalk.i64_in _ (by omega)
  go_enter Tryz.func22, Tryz.ntmps22
  go_upto_region 1 with fail
  have R1 := Row.new w 54 [va, vb, vc] rfl
  have B1 := Lib.hid (below_box (Below.refl w.heap.size w) (.cells #[va, vb, vc] 54))
  generalize w.alloc _ = w1 at *
  have x0 := R1.cellAt 0 rfl
  have x1 := R1.cellAt 1 rfl
  have x2 := R1.cellAt 2 rfl
  clear R1
  go_upto_region 2 with (first | (go_at_call 47; (with_reducible refine (qL.out _).mono ?_); rintro e w2 ⟨rfl, hb2⟩) | fail "none")
  have R3 := Lib.hid (Row.new w2 66 [.int .i64 g1, .int .i64 g2, .int .i64 g3, .int .i64 g4, .int .i64 g5, .int .i64 g6, .int .i64 g7, .int .i64 g8, .int .i64 g9, .pointer none, .pointer none, .int .u8 0, .int .u8 0, .int .u8 0, .int .u8 0, .int .u8 0, .int .u8 0, .int .u8 0, .int .u8 0, .int .u8 0, .int .u8 0, .int .u8 0, .int .u8 0, .int .u8 0, .int .u8 0, .int .u8 0, .int .u8 0, .int .u8 0, .int .u8 0, .int .u8 0, .int .u8 0, .int .u8 0, .int .u8 0, .int .u8 0, .int .u8 0] rfl)
  have B3 := Lib.hid (below_box (below_next B1.out hb2) (.cells #[.int .i64 g1, .int .i64 g2, .int .i64 g3, .int .i64 g4, .int .i64 g5, .int .i64 g6, .int .i64 g7, .int .i64 g8, .int .i64 g9, .pointer none, .pointer none, .int .u8 0, .int .u8 0, .int .u8 0, .int .u8 0, .int .u8 0, .int .u8 0, .int .u8 0, .int .u8 0, .int .u8 0, .int .u8 0, .int .u8 0, .int .u8 0, .int .u8 0, .int .u8 0, .int .u8 0, .int .u8 0, .int .u8 0, .int .u8 0, .int .u8 0, .int .u8 0, .int .u8 0, .int .u8 0, .int .u8 0, .int .u8 0] 66))
  have hwb3 := Lib.hid (show w.heap.size ≤ w2.heap.size by have := B1.out.size; have := hb2.size; omega)
  clear hb2 x0 x1 x2
  generalize w2.alloc _ = w3 at *
  have k0 := R3.out.cellAt 0 rfl
  go_upto_region 3 with (first | (go_at_call 48; (with_reducible refine (qN.out _).mono ?_); rintro e w4 ⟨db, rfl, ⟨y, hD4⟩, hb4⟩) | fail "none")
  have R4 := Lib.hid (R3.out.below hb4 R3.out.lt)
  have hs34 := R3.out.lt
  have HS4 : Hid (∀ k ∈ devB db y, w3.heap.size ≤ k ∧ k < w4.heap.size) := Lib.hid (by have := hD4.bounds; simp [devB]; omega)
  have HD4 := Lib.hid hD4
  have B4 := Lib.hid (below_next B3.out hb4)
  have HN4 : Hid (w2.heap.size ∉ devB db y) := Lib.hid (fun h => by have := (HS4.out _ h).1; omega)
  clear hb4 hD4 k0 R3 hs34
  have k0 := R4.out.cellAt 0 rfl; have k1 := R4.out.cellAt 1 rfl; have k2 := R4.out.cellAt 2 rfl; have k3 := R4.out.cellAt 3 rfl; have k4 := R4.out.cellAt 4 rfl; have k5 := R4.out.cellAt 5 rfl; have k6 := R4.out.cellAt 6 rfl; have k7 := R4.out.cellAt 7 rfl; have k8 := R4.out.cellAt 8 rfl
  have qF4 := Lib.hid (qF.out _ _ _ _ HD4.out)
  go_upto_region 5 with (first | (go_at_call 21; (with_reducible refine qF4.out.mono ?_); rintro e w5 ⟨rfl, hD5, ho5⟩) | fail "none")
  have R5 := Lib.hid (ho5.row R4.out HN4.out)
  have HD5 := Lib.hid hD5
  have B5 := Lib.hid (B4.out.trans (ho5.below B4.out.size (fun k hk => by have := (HS4.out k hk).1; have := B3.out.size; omega)))
  have hs45 := Lib.hid ho5.size
  clear ho5 hD5  k0 k1 k2 k3 k4 k5 k6 k7 k8 qF4 R4 B4 HD4
  have k0 := R5.out.cellAt 0 rfl; have k1 := R5.out.cellAt 1 rfl; have k2 := R5.out.cellAt 2 rfl; have k3 := R5.out.cellAt 3 rfl; have k4 := R5.out.cellAt 4 rfl; have k5 := R5.out.cellAt 5 rfl; have k6 := R5.out.cellAt 6 rfl; have k7 := R5.out.cellAt 7 rfl; have k8 := R5.out.cellAt 8 rfl
  have qO5 := Lib.hid (qO.out _ _ _ _ HD5.out)
  go_upto_region 6 with (first | (go_at_call 16; (with_reducible refine qO5.out.mono ?_); rintro e w6 ⟨lb, rfl, hL6, hlb6, hb6⟩) | fail "none")
  have R6 := Lib.hid (R5.out.below hb6 R5.out.lt)
  have HD6 := Lib.hid (HD5.out.below hb6)
  have B6 := Lib.hid (below_next B5.out hb6)
  have HL6 := Lib.hid hL6
  have HNE : Hid (w2.heap.size ≠ lb ∧ w2.heap.size ∉ devB db y ∧ lb ∉ devB db y) := Lib.hid ⟨by have := R5.out.lt; omega, HN4.out, fun h => by have := (HS4.out _ h).2; have := hs45.out; omega⟩
  have HLO : Hid (w.heap.size ≤ lb) := Lib.hid (by have := R5.out.lt; have := hwb3.out; omega)
  clear hb6 hL6 hlb6  k0 k1 k2 k3 k4 k5 k6 k7 k8 qO5 R5 B5 HD5
  have k9 := R6.out.cellAt 9 rfl
  have k10 := R6.out.cellAt 10 rfl
  have f9 := R6.out.free 9 (by simp)
  have f10 := R6.out.free 10 (by simp)
  go_upto_region 7 with fail
  have R7 := Lib.hid ((R6.out.set 9 (.pointer (some ⟨db, 0, none⟩))).set 10 (.pointer (some ⟨lb, 0, none⟩)))
  have B7 := Lib.hid ((B6.out.setCell (p := ⟨w2.heap.size, 9, none⟩) hwb3.out (.pointer (some ⟨db, 0, none⟩))).setCell (p := ⟨w2.heap.size, 10, none⟩) hwb3.out (.pointer (some ⟨lb, 0, none⟩)))
  have HD7 := Lib.hid ((HD6.out.log w2.heap.size 9 (.pointer (some ⟨db, 0, none⟩)) HNE.out.2.1).log w2.heap.size 10 (.pointer (some ⟨lb, 0, none⟩)) HNE.out.2.1)
  have HL7 : Hid (LogAt lb db _ _ ((w6.setCell ⟨w2.heap.size, 9, none⟩ (.pointer (some ⟨db, 0, none⟩))).setCell ⟨w2.heap.size, 10, none⟩ (.pointer (some ⟨lb, 0, none⟩)))) := Lib.hid ((Row.other HL6.out (a := ⟨w2.heap.size, 9, none⟩) HNE.out.1 _).other (a := ⟨w2.heap.size, 10, none⟩) HNE.out.1 _)
  clear k9 k10 f9 f10 R6 B6 HD6 HL6
  generalize World.setCell _ _ _ = w7 at *
  have k1 := R7.out.cellAt 1 rfl
  have HL7d : Hid (LogAt lb db ⟨g1, g2, g3, g4, g5, g6, g7, g8, g9⟩ ⟨0, 0, 1, 0⟩ w7.drew) := Lib.hid (Row.drew HL7.out)
  have hee : (g2 - 1 == g2 - 1) = true := beq_self_eq_true _
  go_region_held3 (fun w' => w'.cell? ⟨w2.heap.size, 1, none⟩ = some (.int .i64 g2))
    (first | exact k1 | exact R8.cellAt 1 rfl)
    (first | (go_at_call 17; (with_reducible refine (qR.out db lb _ HL7d.out).mono ?_); rintro e w8 ⟨rfl, hb8x⟩; have hb8 : Below w7.heap.size w7 w8 := ⟨hb8x.os, hb8x.tape, hb8x.output, hb8x.size, hb8x.block⟩; have R8 := R7.out.below hb8 R7.out.lt) | fail "none")
  have HD8 := Lib.hid (HD7.out.below hb8)
  have HL8 := Lib.hid (Row.below HL7.out hb8 (Row.lt HL7.out))
  have HR8 := Lib.hid R8
  have B8 := Lib.hid (below_next B7.out hb8)
  have HWB := Lib.hid hwb3.out
  clear hb8 hb8x R8 k1 hwb3
  go_wp2_with fail
  go_ret2
  exact ⟨w2.heap.size, db, lb, y, rfl, ⟨HR8.out, rfl, rfl, HD8.out.monoS (by have := B3.out.size; omega), HL8.out, HNE.out⟩, HWB.out, HLO.out, B8.out⟩
end Go.Proofs.YtnpdhidliaahbaaGreat

namespace Go.Proofs.YtnpdhidliaahbaaGreat
set_option linter.unusedVariables false
open Go Go.RowKit
section
variable {Bd db lb : Nat} {y : Lay} {g : Geo.G} {D : Dev} {V : LogV} {home want next h : List UInt8} {at_ q K : Nat} {l : List Jr.Txn} {w : World}
theorem opendev_sys {m : List ByteArray} (hs : sized m) (hl : 1 ≤ m.length ∧ m.length ≤ 4096) : Calls Tryz.prog 24 #[.string (txt (cat m))] w fun e w' => ∃ b, e = .returned (.tuple #[.pointer (some ⟨b, 0, none⟩), .int .i64 0]) ∧ (∃ y, DevAt w.heap.size w' b y (Dev.fresh m)) ∧ Below w.heap.size w w' := by
  have h1 := opendev_any (w := w) (txt (cat m)) m.length (by show (cat m).toArray.size = _; rw [List.size_toArray, cat_length m hs]) hl
  rwa [chop_cat_selfS m hs] at h1
theorem fresh_pend (m : List ByteArray) : pendTo (Dev.fresh m).pend (Dev.fresh m).pend.length = [] := pendTo_falsesS _ _
theorem flush_pend {L : List Jr.Act} {D : Dev} (h : (Jr.doA (L ++ [.flush]) D).2 = 0) : pendTo (Jr.doA (L ++ [.flush]) D).1.pend (Jr.doA (L ++ [.flush]) D).1.pend.length = [] := by
  rw [Jr.doA_append] at h ⊢
  split at h
  · rename_i k
    rw [if_pos k, Jr.doA_one] at *
    have e : (Jr.Act.flush.run (Jr.doA L D).1).2 = (Jr.doA L D).1.flushE := rfl
    rw [e] at h
    have hd : (Jr.doA L D).1.dead = false := by
      unfold Dev.flushE at h
      split at h
      · cases h
      · rename_i k; simpa using k
    have e2 : (Jr.Act.flush.run (Jr.doA L D).1).1.pend = List.replicate (Jr.doA L D).1.kept.length false := by
      show (Jr.doA L D).1.flush.pend = _
      unfold Dev.flush
      rw [hd]
      rfl
    rw [e2]
    exact pendTo_falsesS _ _
  · rename_i k; exact absurd h k
/-- What a replay tells, in these words. -/
structure RepOk (Bd db : Nat) (y : Lay) (g : Geo.G) (D : Dev) (h : List UInt8) (K : Nat) (l : List Jr.Txn) (w : World) (E : Int) (D' : Dev) : Prop where
  is : E = 0
  armed : D'.armed = D.armed
  kept : D'.kept = D'.now
  pend : pendTo D.pend D.pend.length = [] → pendTo D'.pend D'.pend.length = []
  ok : ∃ at_ q, Sys.Ok g D' ⟨at_, 0, q, 0⟩ h h at_ q [] (K + 5000)
  idle : l = [] → D' = D
def RepTold (Bd db : Nat) (y : Lay) (g : Geo.G) (D : Dev) (h : List UInt8) (K : Nat) (l : List Jr.Txn) (w : World) (e : Ending) (w' : World) : Prop :=
  ∃ v E D', e = .returned (.tuple #[v, .int .i64 E]) ∧ DevAt Bd w' db y D' ∧ Only (devB db y) w w' ∧ ((RepOk Bd db y g D h K l w E D' ∧ OwnT w.heap.size w' v l) ∨ (E = 61 ∧ v = .slice none 0 0 ∧ D.armed = true ∧ Sys.Dead g D' h h (K + 5000)))
theorem replay_sys (hR : Sys.Rep g D h K at_ q l) (hg : Geo.May g) (hD : DevAt Bd w db y D) (hd : D.Ok K) (hk : D.kept = D.now) (hb : (D.kept.length : Int) = g.blocks) (hK : K ≤ 100000000000) : Calls Tryz.prog 15 #[.pointer (some ⟨db, 0, none⟩), .agg (Geo.cells g)] w fun e w' => RepTold Bd db y g D h K l w e w' := by
  have hac := hd.acts
  have hr := replay_ok g w hD hg hb hd.now hd.len (by omega)
  rw [hR.read] at hr
  have hnum := hR.num
  have e0 : (⟨at_, q, l, Jr.sizes l⟩ : Jr.Log).place g = (at_ + Jr.sizes l) % Jr.plc g := rfl
  have e1 : (⟨at_, q, l, Jr.sizes l⟩ : Jr.Log).next = q + l.length := by
    unfold Jr.Log.next
    exact Nat.mod_eq_of_lt (by show q + l.length < _; omega)
  refine hr.mono ?_
  intro e w' hh
  rcases hh with ⟨hh, _⟩ | ⟨L, hh, h2, he, h5, h6⟩ | ⟨L, hh, h2, h3, he, h5, h6⟩ | ⟨L, v, hh, h2, h3, he, h4, h5, h6⟩
  · cases hh
  · cases hh
    have h2 : l = [] := h2
    refine ⟨_, _, D, he, h5, h6, .inl ⟨⟨rfl, rfl, hk, id, ⟨_, _, (hR.idle h2).mono (by omega)⟩, fun _ => rfl⟩, ?_⟩⟩
    rw [h2]
    exact ⟨[], World.ownsRow_nil _ _ _ _, trivial⟩
  · cases hh
    dsimp only at h3 he h5
    rw [e0, e1] at h3 he h5
    rcases hR.err with k | k
    · exact absurd k h3
    · rw [k] at he
      exact ⟨_, _, _, he, h5, h6, .inr ⟨rfl, rfl, armed_of k, hR.dead⟩⟩
  · cases hh
    dsimp only at h2 h3 h4 h5
    rw [e0, e1] at h3 h5
    obtain ⟨k1, k2⟩ := hR.ok h3
    refine ⟨v, 0, _, he, h5, h6, .inl ⟨⟨rfl, doA_armed _ _, k1, fun _ => ?_, ⟨_, _, k2⟩, fun e => absurd e h2⟩, h4⟩⟩
    have e2 : Jr.replayA g l ((at_ + Jr.sizes l) % Jr.plc g) (q + l.length) = (((Jr.comes g.blocks.toNat l).map Jr.wr ++ [.flush]) ++ [.write 1 (Jr.headB ((at_ + Jr.sizes l) % Jr.plc g) (q + l.length))]) ++ [.flush] := by
      unfold Jr.replayA Jr.headA
      simp
    rw [e2] at h3 ⊢
    exact flush_pend h3
theorem openlog_sys (ho : Sys.Ok g D V home want at_ q l K) (hD : DevAt Bd w db y D) (hK : K ≤ 100000000000) : Calls Tryz.prog 16 #[.pointer (some ⟨db, 0, none⟩), .agg (Geo.cells g)] w fun e w' => ∃ lb, e = .returned (.tuple #[.pointer (some ⟨lb, 0, none⟩), .int .i64 0]) ∧ LogAt lb db g V w' ∧ w.heap.size ≤ lb ∧ Below w.heap.size w w' := by
  have h1 := openlog_ok g w hD ho.may ho.blocks ho.dok.now ho.dok.len
  rw [(ho.all.atNow ho.dok.len).2.read ho.may] at h1
  have hnum := ho.num
  refine h1.mono ?_
  intro e w' hh
  rcases hh with ⟨hh, _⟩ | ⟨L, lb, hh, he, h1, h2, h3⟩
  · cases hh
  · cases hh
    refine ⟨lb, he, ?_, h2, h3⟩
    have e0 : (⟨at_, q, l, Jr.sizes l⟩ : Jr.Log).v g = V := by
      rw [ho.V]
      unfold Jr.Log.v Jr.Log.place Jr.Log.next
      dsimp only
      rw [Nat.mod_eq_of_lt (show q + l.length < 18446744073709551616 by omega)]
    rwa [e0] at h1
theorem room_sys (ho : Sys.Ok g D V home want at_ q l K) (hL : LogAt lb db g V w) : Calls Tryz.prog 17 #[.pointer (some ⟨lb, 0, none⟩)] w fun e w' => e = .returned (.int .i64 (g.log - 1 - (V.used : Int))) ∧ Below w.heap.size w w' := by
  have hst := (ho.all.atNow ho.dok.len).2
  have hpl := Jr.plc_of ho.may
  have h1 := room_any ho.may w hL (by rw [ho.V]; have := hst.fit; show Jr.sizes l ≤ _; omega)
  rwa [hpl.2.2] at h1
end
namespace Sys
theorem Ok.arm {g : Geo.G} {D : Dev} {V : LogV} {home want : List UInt8} {at_ q K : Nat} {l : List Jr.Txn} (h : Ok g D V home want at_ q l K) (n : Int) : Ok g (D.arm n) V home want at_ q l K :=
  ⟨h.may, h.dok.arm n, h.blocks, h.all, h.says, h.V, h.hl, h.wl, h.num⟩
theorem Ok.atHome {g : Geo.G} {D : Dev} {V : LogV} {home want : List UInt8} {at_ q K : Nat} {l : List Jr.Txn} (h : Ok g D V home want at_ q l K) : AtHome g home D.now := (h.all.atNow h.dok.len).1
theorem Lost.fresh {g : Geo.G} {want next : List UInt8} {K : Nat} {m : List ByteArray} (h : Lost g want next K m) : Lost g want next K (Dev.fresh m).now := h
theorem Rep.of_ok {g : Geo.G} {D : Dev} {V : LogV} {h : List UInt8} {at_ q K : Nat} (ho : Ok g D V h h at_ q [] K) (hk : D.kept = D.now) : Rep g D h K at_ q [] := by
  have hS := (ho.all.atNow ho.dok.len).2
  have hL : Lost g h h K D.now := (ho.dead h).all.atNow ho.dok.len
  obtain ⟨a, q', l, h', hh, R⟩ := replay ho.may ho.dok hk ho.blocks ho.wl ho.wl hL
  have e := R.read.symm.trans (hS.read ho.may)
  simp only [Option.some.injEq, Jr.Log.mk.injEq] at e
  obtain ⟨rfl, rfl, rfl, _⟩ := e
  obtain rfl : h' = h := hh.elim id id
  exact R
end Sys
end Go.Proofs.YtnpdhidliaahbaaGreat
