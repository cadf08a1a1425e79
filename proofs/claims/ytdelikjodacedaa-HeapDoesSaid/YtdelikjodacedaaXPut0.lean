/- The document's heap: New, kind, put (a thing behind the others), by contract. -/
import Derived.Test.YtdelikjodacedaaXGet
import Derived.Test.YtdelikjodacedaaOpenI
import Derived.Deep.RegionLaw
namespace Go.Proofs.Ytdelikjodacedaa
open Go.RowKit
theorem Try.info65 : (Try.prog.info? 65).map (fun i => (i.zero, i.size, i.bytes)) = some (some (.agg #[.bool false, .int .i64 0, .int .i64 0, .slice none 0 0]), 4, 48) := by kernel_rfl

/-- append as one step of a region that draws: where the new row lies besides. -/
theorem step_append_at {P : Program} {ops : Array Oper} {o : Oper} {a : Act} {w : World} {K : Act → World → Prop} {Q : Exit → Act → World → Prop} {E : Prop}
    (hg : o.guard = none) (s x : Operand) (t : TypeId) (hop : o.op = Op.call { callee := Callee.builtin Builtin.append, args := #[s, x], argTypes := #[t, t] })
    (base : Nat) (e : TypeId) (i : TypeInfo) (z : Value) (size bytes : Nat) (ht : P.underlying t = some (.slice e)) (hi : P.info? e = some i) (hz : i.zero = some z)
    (hsize : i.size = size) (hby : i.bytes = bytes) (hzs : z.cells.size = size) (hsz : 0 < size)
    (v : Value) (n : Nat) (xs : List Value) (hs : a.eval s = v) (hown : w.ownsRow base e size v n xs)
    (ad : Addr) (m c : Nat) (news : List Value) (hx : a.eval x = .slice (some ad) m c) (hl : news.length = m * size) (hnews : ∀ j u, news[j]? = some u → w.cell? (ad.add j) = some u) (h1 : ∀ u ∈ news, u.oneCell' = true)
    (h63 : n + m ≤ maxLen) (hbytes : (n + m) * bytes ≤ 140737488355328) (hbase : base ≤ w.heap.size)
    (h : ∀ v' w', w'.ownsRow base e size v' (n + m) (xs ++ news) → w.grownBy w' v.ownBlock → (∀ k, v'.ownBlock = some k → v.ownBlock = some k ∨ w.heap.size ≤ k) → K (a.put o.dst v') w') :
    if Region.wanted o (yielded ops a.tmps) = true then Oper.wp P o a w K Q else E := by
  have hw : Region.wanted o (yielded ops a.tmps) = true := by simp [Region.wanted, hg]
  rw [if_pos hw]
  obtain ⟨v', w', hr, h2, h3, h4⟩ := run_append_at (P := P) w base t o.type e i z size bytes ht hi hz hsize hby hzs hsz v n xs hown ad m c news hl hnews h1 h63 hbytes hbase
  unfold Oper.wp execOp
  simp only [hop, resolve, invoke, builtin, Sem.run_bind, Sem.run_pure, Result.andThen_ok, List.map_toArray, List.map_cons, List.map_nil, hs, hx, hr]
  exact h v' w' h2 h3 h4

set_option maxHeartbeats 400000 in
theorem XNew_any (m : Int) (w : World) : Calls Try.prog 36 #[.int .i64 m] w fun e w' => e = .returned (.pointer (some ⟨w.heap.size, 0, none⟩)) ∧ w.alloc (.cells #[.int .i64 (max m 0), .int .i64 0, .slice none 0 0] 62) = w' := by
  by_cases h : 0 ≤ m
  · have e : max m 0 = m := by omega
    rw [e]
    clear e
    go_enter Try.func36, Try.ntmps36
    go_wp2
    go_ret
    exact ⟨rfl, rfl⟩
  · have e : max m 0 = 0 := by omega
    rw [e]
    clear e
    go_enter Try.func36, Try.ntmps36
    go_wp2
    go_ret
    exact ⟨rfl, rfl⟩
set_option maxHeartbeats 400000 in
theorem xkind_any (k : Int) (w : World) : Calls Try.prog 60 #[.int .i64 k] w fun e w' => e = .returned (.bool (isK k)) ∧ w = w' := by
  by_cases h1 : k = 1
  · subst h1
    go_enter Try.func60, Try.ntmps60
    go_wp2
    go_ret
    exact ⟨rfl, rfl⟩
  by_cases h2 : k = 2
  · subst h2
    go_enter Try.func60, Try.ntmps60
    go_wp2
    go_ret
    exact ⟨rfl, rfl⟩
  by_cases h3 : k = 3
  · subst h3
    go_enter Try.func60, Try.ntmps60
    go_wp2
    go_ret
    exact ⟨rfl, rfl⟩
  have e : isK k = false := decide_eq_false (by omega)
  rw [e]
  clear e
  go_enter Try.func60, Try.ntmps60
  go_wp2
  go_ret
  exact ⟨by simp [h1, h2, h3], rfl⟩

/-- A new block's cells. -/
theorem cells_new (w : World) (l : List Value) (e : TypeId) : ∀ j u, l[j]? = some u → (w.alloc (.cells l.toArray e)).cell? ((⟨w.heap.size, 0, none⟩ : Addr).add j) = some u := fun j u hu => by
  rw [add_at, Nat.zero_add]
  exact cell_in (heap_alloc_new w _) j (by simpa using hu)
/-- A heap behind a deed. -/
def XMade (w : World) (base : Nat) (fp : List Nat) (xb : Nat) (most used' : Int) (ts' : List Thg) (w' : World) : Prop :=
  ∃ fp' sv' tp', XRep w' base fp' xb most used' sv' tp' ts' ∧ (∀ k ∈ fp', k ∈ fp ∨ w.heap.size ≤ k) ∧ Out fp w w'
section
variable {w : World} {base : Nat} {fp : List Nat} {xb : Nat} {most used : Int} {sv : Value} {tp : List (Thg × Value)} {ts : List Thg}
theorem XMade.same (h : XRep w base fp xb most used sv tp ts) {w' : World} (ho : Out [] w w') : XMade w base fp xb most used ts w' :=
  ⟨fp, sv, tp, h.out ho (fun _ _ => by simp), fun _ hk => .inl hk, ho.mono (by simp)⟩

def XPutPost (w : World) (base : Nat) (fp : List Nat) (xb : Nat) (most used : Int) (ts : List Thg) (lv : Value) (t : Thg) (e : Ending) (w' : World) : Prop :=
  e = .returned (.tuple #[.int .i64 ((ts.length : Int) + 1), .bool true]) ∧ ∃ fp' sv' tp', XRep w' base fp' xb most (used + t.l.length + 1) sv' tp' (ts ++ [t]) ∧ (∀ k ∈ fp', k ∈ fp ∨ lv.ownBlock = some k ∨ w.heap.size ≤ k) ∧ Out fp w w'

set_option maxHeartbeats 1000000 in
theorem xput_no (h : XRep w base fp xb most used sv tp ts) (t : Thg) (lv : Value) (row : w.ownsRow base 45 2 lv t.l.length (flatV t.l)) (hno : most < used + 1 + t.l.length) (hlen : t.l.length ≤ 1000000) :
    Calls Try.prog 61 #[.pointer (some ⟨xb, 0, none⟩), aggT t lv] w fun e w' => e = .returned (.tuple #[.int .i64 0, .bool false]) ∧ Out [] w w' := by
  have h1 := h.out ((Out.refl [] w).alloc (blkT t lv)) (by simp)
  have c0 := h1.c0
  have c1 := h1.c1
  have u0 := h.used0
  have u1 := h.usedM
  have u2 := h.most0
  have d3 := cell_in (heap_alloc_new w (blkT t lv)) 3 rfl
  have ho := (Out.refl [] w).alloc (blkT t lv)
  obtain ⟨la, lc, rfl, _, _, _⟩ := owns_shape row
  clear h h1 row
  go_enter Try.func61, Try.ntmps61
  go_wp2
  go_quiet (fail)
  go_wp2
  go_ret2
  exact ⟨rfl, ho.drewN _⟩

set_option maxHeartbeats 2000000 in
theorem xput_yes (h : XRep w base fp xb most used sv tp ts) (t : Thg) (lv : Value) (row : w.ownsRow base 45 2 lv t.l.length (flatV t.l)) (hl2 : ∀ g, lv.ownBlock = some g → g ∉ fp) (hyes : used + 1 + t.l.length ≤ most) (hlen : t.l.length ≤ 1000000) :
    Calls Try.prog 61 #[.pointer (some ⟨xb, 0, none⟩), aggT t lv] w (XPutPost w base fp xb most used ts lv t) := by
  obtain ⟨i0, hi, hz0, hz1, hz2⟩ := info_parts Try.info65
  have h1 := h.out ((Out.refl [] w).alloc (blkT t lv)) (by simp)
  have c0 := h1.c0
  have c1 := h1.c1
  have u0 := h.used0
  have u1 := h.usedM
  have u2 := h.most0
  have hxl := h.xbLt
  have hbge := h.ge _ h.mem
  have hb := heap_alloc_new w (blkT t lv)
  have d3 := cell_in hb 3 rfl
  have ho := (Out.refl [] w).alloc (blkT t lv)
  have hrow1 := row.alloc (blkT t lv)
  have hlt := fun g hg => (row.lt g hg).2
  obtain ⟨la, lc, rfl, _, _, _⟩ := owns_shape row
  have HL2 := Lib.hid hl2
  obtain ⟨a, cap, rfl, hs1, hs2, _⟩ := owns_shape h.row
  have hn := h.small
  clear row hl2
  go_enter Try.func61, Try.ntmps61
  go_wp2
  go_quiet (fail)
  go_wp2
  -- the second region: 'used' is written
  have h2 : XRep ((w.alloc (blkT t (.slice la t.l.length lc))).drewN nq).drew base fp xb most used (.slice a ts.length cap) tp ts := (h1.drewN nq).drewN 1
  have hb2 : ((w.alloc (blkT t (.slice la t.l.length lc))).drewN nq).drew.heap[w.heap.size]? = some (blkT t (.slice la t.l.length lc)) := hb
  have ho2 : Out [] w ((w.alloc (blkT t (.slice la t.l.length lc))).drewN nq).drew := (ho.drewN nq).drew
  have hrow2 : ((w.alloc (blkT t (.slice la t.l.length lc))).drewN nq).drew.ownsRow base 45 2 (.slice la t.l.length lc) t.l.length (flatV t.l) := ownsRow_same hrow1 fun _ _ => rfl
  refine wp_region_still_tail 10 (by kernel_rfl) (by kernel_rfl) ?_
  simp only [List.take_succ_cons, List.take_zero, List.drop_succ_cons, List.drop_zero]
  change wpStill _ _ ((w.alloc (blkT t (.slice la t.l.length lc))).drewN nq).drew (fun a' => wpList _ _ _ _ a' ((w.alloc (blkT t (.slice la t.l.length lc))).drewN nq).drew) _ _
  generalize ((w.alloc (blkT t (.slice la t.l.length lc))).drewN nq).drew = V at *
  clear h1 hb ho hrow1 c0 c1 d3
  have c1 := h2.c1
  have f1 := h2.free 1
  have d3 := cell_in hb2 3 rfl
  have hne : w.heap.size ≠ xb := by omega
  have H3 := h2.setUsed (u := used + t.l.length + 1) (by omega) (by omega)
  have ho3 : Out fp w (V.setCell ⟨xb, 1, none⟩ (.int .i64 (used + t.l.length + 1))) := (ho2.mono (by simp)).setCell (.inl h.mem) _
  have hb3 : (V.setCell ⟨xb, 1, none⟩ (.int .i64 (used + t.l.length + 1))).heap[w.heap.size]? = some (blkT t (.slice la t.l.length lc)) := (Below.heap_setCell _ _ _ _ hne).trans hb2
  have hrow3 : (V.setCell ⟨xb, 1, none⟩ (.int .i64 (used + t.l.length + 1))).ownsRow base 45 2 (.slice la t.l.length lc) t.l.length (flatV t.l) := ownsRow_same hrow2 fun g hg => Below.heap_setCell _ _ _ _ (owns_ne hrow2 hg h2.blk (by decide))
  have e1 : used + t.l.length + 1 = used + 1 + t.l.length := by omega
  have HH3 := Lib.hid H3
  have HB3 := Lib.hid hb3
  have HO3 := Lib.hid ho3
  have HROW3 := Lib.hid hrow3
  clear H3 hb3 ho3 hrow3 h2 hb2 ho2 hrow2
  repeat still_step
  refine wpStill_nil ?_
  rw [e1] at HH3 HB3 HO3 HROW3
  go_wp2
  -- the third region: the thing is put behind the others
  generalize V.setCell ⟨xb, 1, none⟩ (.int .i64 (used + 1 + t.l.length)) = U at *
  have h4 : XRep U.drew base fp xb most (used + 1 + t.l.length) (.slice a ts.length cap) tp ts := HH3.out.drewN 1
  have hb4 : U.drew.heap[w.heap.size]? = some (blkT t (.slice la t.l.length lc)) := HB3.out
  have ho4 : Out fp w U.drew := HO3.out.drew
  have hsz4 := ho4.size
  have hdr : U.drew.heap.size = U.heap.size := rfl
  have hrow4 : U.drew.ownsRow base 45 2 (.slice la t.l.length lc) t.l.length (flatV t.l) := ownsRow_same HROW3.out fun _ _ => rfl
  clear HH3 HB3 HO3 HROW3 c1 f1 d3
  have c2 : U.drew.cell? ⟨xb, 2, none⟩ = some (.slice a ts.length cap) := h4.c2
  have c2a : (U.alloc (.cells #[.bool t.arr, .int .i64 t.kind, .int .i64 t.cls, .slice la t.l.length lc] 65)).cell? ⟨xb, 2, none⟩ = some (.slice a ts.length cap) := cell_in ((Below.heap_alloc U _ xb h4.xbLt).trans h4.blk) 2 rfl
  have d0 := cell_in hb4 0 rfl
  have d1 := cell_in hb4 1 rfl
  have d2 := cell_in hb4 2 rfl
  have d3 := cell_in hb4 3 rfl
  have hrow5 : U.drew.ownsRow base 65 4 (.slice a ts.length cap) ts.length (flatT tp) := h4.row
  have hxl4 : xb < U.drew.heap.size := h4.xbLt
  have svne : ∀ g, (Value.slice a ts.length cap).ownBlock = some g → g ≠ xb := fun g hg => owns_ne hrow5 hg h4.blk (by decide)
  have keep : ∀ (o : Obj) (w1 : World), (U.drew.alloc o).grownBy w1 (Value.slice a ts.length cap).ownBlock → w1.cell? ⟨xb, 2, none⟩ = some (.slice a ts.length cap) ∧ w1.frozen? ⟨xb, 2, none⟩ = false := fun o w1 hg => by
    have hbblk := ((hg.block xb (by simp; omega) (fun e => svne xb e.symm rfl)).trans (Below.heap_alloc U.drew o xb hxl4)).trans h4.blk
    exact ⟨cell_in hbblk 2 rfl, free_in hbblk 2⟩
  have fin : ∀ (o : Obj) (w1 : World) (sv' : Value), w1.ownsRow base 65 4 sv' (ts.length + 1) (flatT tp ++ cellsT (t, .slice la t.l.length lc)) → (U.drew.alloc o).grownBy w1 (Value.slice a ts.length cap).ownBlock →
      (∀ k, sv'.ownBlock = some k → (Value.slice a ts.length cap).ownBlock = some k ∨ U.drew.heap.size + 1 ≤ k) → XPutPost w base fp xb most used ts (.slice la t.l.length lc) t (.returned (.tuple #[.int .i64 ((ts.length : Int) + 1), .bool true])) (w1.setCell ⟨xb, 2, none⟩ sv') := fun o w1 sv' k1 k2 k3 => by
    have hc4 := h4.count
    have hc := h.count
    obtain ⟨r1, r2, r3⟩ := h4.snoc hrow4 HL2.out (by omega) k1 k2 k3
    refine ⟨rfl, _, _, _, e1 ▸ r1, fun k hk => ?_, ho4.trans r3 fun x hx => .inl hx⟩
    simp only [List.mem_append, Option.mem_toList] at hk
    rcases hk with hk | hk | hk
    · exact .inl hk
    · exact .inr (.inl hk)
    · rcases r2 k hk with hk | hk
      · exact .inl hk
      · have := ho4.size
        exact .inr (.inr (by omega))
  have FIN := Lib.hid fin
  have KEEP := Lib.hid keep
  have hbase4 : base ≤ U.drew.heap.size := by omega
  clear fin keep h h4 svne hb4 ho4 hrow4
  unfold maxLen at hs2
  clear e1 hyes
  generalize ts.length = n at *
  go_region_law (
    (refine step_append_at rfl _ _ 60 rfl base 65 i0 (.agg #[.bool false, .int .i64 0, .int .i64 0, .slice none 0 0]) 4 48 Try.underlying60 hi hz0 hz1 hz2 rfl (by decide) (.slice a n cap) n (flatT tp) rfl (hrow5.alloc _) ⟨U.drew.heap.size, 0, none⟩ 1 1 (cellsT (t, .slice la t.l.length lc)) rfl rfl (cells_new _ _ _) (by intro u hu; simp [cellsT] at hu; rcases hu with rfl | rfl | rfl | rfl <;> rfl) (by unfold maxLen; omega) (by omega) (by simp; omega) ?_
     intro sv' w1 hown' hgrow hat
     obtain ⟨k1, k2⟩ := KEEP.out _ _ hgrow
     have hfin := Lib.hid (FIN.out _ _ _ hown' hgrow (by simpa using hat))
     obtain ⟨a', cap', rfl, _, hs2', _⟩ := owns_shape hown'
     clear hown' hgrow hat
     unfold maxLen at hs2'))
  all_goals
    go_wp2
    go_ret2
    exact hfin.out
end
end Go.Proofs.Ytdelikjodacedaa
