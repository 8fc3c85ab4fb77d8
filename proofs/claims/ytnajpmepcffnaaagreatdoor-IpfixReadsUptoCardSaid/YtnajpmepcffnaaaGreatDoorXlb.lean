/- The program's contracts: texts joined into one: PlSort Cache1 Cache2 Cache3 Cache4 Cache5 Cache6 IpLaw2 IpLaw3 Field10 IpA IpB IpC IpD IpE IpF IpG IpH IpI. -/
import Derived.Test.YtnajpmepcffnaaaGreatDoorXla
import Derived.Test.YtnajpmepcffnaaaGreatDoorXSort
import Derived.Lib.QuietBelow

section
/- cache: slices.SortFunc at places, told over the call's own row. -/
namespace Go.Proofs.YtnajpmepcffnaaaGreatDoor
open Go.Ve

def plcs (p : Pl) : List AV := [.int .u32 (p.1 : Int), .int .i64 p.2]
def plv (p : Pl) : AV := .agg (plcs p)
def plcl (l : List Pl) : List (List AV) := l.map plcs
theorem plcl_len (l : List Pl) : (plcl l).length = l.length := by simp [plcl]
theorem plcl_get (l : List Pl) (i : Nat) : (plcl l)[i]? = (l[i]?).map plcs := by simp [plcl]
theorem plcl_snoc (l : List Pl) (x : Pl) : plcl l ++ [plcs x] = plcl (l ++ [x]) := by simp [plcl]
abbrev told : Dr := ⟨⟨True⟩⟩
def encP (p : Pl) : List Value := [.int .u32 (p.1 : Int), .int .i64 p.2]
theorem encP_len (p : Pl) : (encP p).length = 2 := rfl
theorem encP_one (p : Pl) : ∀ v ∈ encP p, v.oneCell' = true := by
 intro v hv
 simp only [encP, List.mem_cons, List.not_mem_nil, or_false] at hv
 rcases hv with rfl | rfl <;> rfl
theorem enc_rv {K : Addr → Value → Prop} {σ : List Value} (p : Pl) : ∀ (j : Nat) (x : AV), (plcs p)[j]? = some x → Rv K σ x ((encP p)[j]!)
 | 0, _, h | 1, _, h => by
  simp only [plcs, List.getElem?_cons_zero, List.getElem?_cons_succ, Option.some.injEq] at h
  subst h; exact .int _ _ _
 | j + 2, _, h => by simp [plcs] at h
theorem rv_enc {K : Addr → Value → Prop} {σ : List Value} (p : Pl) : ∀ (j : Nat) (x : AV) (v : Value), (plcs p)[j]? = some x → Rv K σ x v → v = (encP p)[j]!
 | 0, _, _, h, k | 1, _, _, h, k => by
  simp only [plcs, List.getElem?_cons_zero, List.getElem?_cons_succ, Option.some.injEq] at h
  subst h; rw [k.int_inv]; rfl
 | j + 2, _, _, h, _ => by simp [plcs] at h
theorem agg_enc {K : Addr → Value → Prop} {σ : List Value} (p : Pl) : Rv K σ (plv p) (.agg (encP p).toArray) := by
 refine .agg _ _ _ rfl rfl fun j x hx => ?_
 have hj : j < 2 := (List.getElem?_eq_some_iff.1 hx).1
 have := enc_rv (K := K) (σ := σ) p j x hx
 have e : (encP p).toArray.getD j undef = (encP p)[j]! := by
  have h1 : j < (encP p).length := hj
  rw [Array.getD_eq_getD_getElem?, List.getElem?_toArray, List.getElem?_eq_getElem h1, getElem!_pos (encP p) j h1]; rfl
 rw [e]; exact this

theorem cmp_lays {c : Pl → Pl → Int} {g : FuncId} (hc : ∀ x y, @PCall told P g [plv x, plv y] (.int .i64 (c x y))) {w : World} {blk off size : Nat} (hblk : blk < w.heap.size) (hg : ∀ b, gblk = some b → b ≠ blk ∧ ∃ m, w.cell? ⟨b, 0, none⟩ = some (.int .i64 m)) :
  CmpLays P g #[] encP 2 c blk off size w := by
 intro m os dk hs x y
 have h := hc x y
 unfold PCall at h
 have hsz : (sortWorldK encP 2 w blk off m dk os).heap.size = w.heap.size + os.size := by
  unfold sortWorldK Go.Sort.putRowK
  rw [Go.Sort.size_grow, Go.Sort.size_putRow]; rfl
 have hcall := h.2 (fun b => b = blk) (sortWorldK encP 2 w blk off m dk os) [.agg (encP x).toArray, .agg (encP y).toArray] (fun b hb => by rw [hsz]; rw [show b = blk from hb]; omega) (fun b hb => by
  obtain ⟨h1, k, hk⟩ := hg b hb
  refine ⟨k, fun e => h1 e, ?_⟩
  unfold sortWorldK Go.Sort.putRowK
  rw [Go.Sort.cell?_grow _ _ _ (by rw [Go.Sort.size_putRow]; exact World.block_lt_of_cell? w _ hk), Go.Sort.cell?_putRow_other _ _ _ _ _ _ (.inl h1)]
  exact hk) ⟨rfl, fun i a ha => by
   match i with
   | 0 => simp only [List.getElem?_cons_zero, Option.some.injEq] at ha; subst ha; exact agg_enc x
   | 1 => simp only [List.getElem?_cons_succ, List.getElem?_cons_zero, Option.some.injEq] at ha; subst ha; exact agg_enc y
   | i + 2 => simp at ha⟩
 have eargs : (#[Value.agg (encP x).toArray, .agg (encP y).toArray] ++ #[] : Array Value) = [Value.agg (encP x).toArray, .agg (encP y).toArray].toArray := Array.append_empty
 rw [eargs]
 refine Calls.mono hcall ?_
 rintro e w' ⟨v, rfl, hb, hv⟩
 have hvi : v = .int .i64 (c x y) := Rv.int_inv hv
 refine ⟨congrArg Ending.returned hvi, ?_⟩
 have hd := @Tp.d told _ _ (@Below.tape told _ _ _ hb) True.intro
 obtain ⟨p, hp⟩ := regrown_of_below (@Below.base told _ _ _ hb)
 have hpd : w'.drawn = p.d := by rw [hp]; rfl
 refine ⟨p.d - (sortWorldK encP 2 w blk off m dk os).drawn, p.os, ?_⟩
 rw [hp]
 unfold redrawn World.drewN
 congr 2
 omega
theorem srtC_unique {c : Pl → Pl → Int} (hT : TO c) (h0 : ∀ x y, c x y = 0 → x = y) {d d' : Array Pl} (h1 : Go.Sort.PermIn 0 d.size d d') (h2 : Go.Sort.SortedIn (ltOf c) 0 d.size d') : d'.toList = srtC c d.toList := by
 have hS : Go.Sort.SWO (ltOf c) := ⟨fun x => by unfold ltOf; rw [hT.selfC]; rfl, fun x y z h1 h2 => by
   unfold ltOf at *
   exact decide_eq_true (hT.strict (of_decide_eq_true h1) (by have := of_decide_eq_true h2; omega)), fun x y z h1 h2 => by
   unfold ltOf at *
   have k1 := of_decide_eq_false h1
   have k2 := of_decide_eq_false h2
   refine decide_eq_false fun hx => ?_
   have n1 := hT.neg x y
   have n2 := hT.neg y z
   have n3 := hT.neg x z
   have := hT.tr z y x (by omega) (by omega)
   omega⟩
 have := Go.Sort.sorted_unique_holds hS (fun x y k1 k2 => h0 x y (by
  unfold ltOf at k1 k2
  have k1 := of_decide_eq_false k1
  have k2 := of_decide_eq_false k2
  have := hT.neg x y
  omega)) d d' h1 h2
 rw [this]
 unfold srtC
 congr 1
 funext x y
 unfold ltOf
 have := hT.neg x y
 by_cases h : c x y ≤ 0
 ·rw [decide_eq_true h, decide_eq_false (by omega)]; rfl
 ·rw [decide_eq_false h, decide_eq_true (by omega)]; rfl
theorem sortF_own {c : Pl → Pl → Int} {g : FuncId} (hc : ∀ x y, @PCall told P g [plv x, plv y] (.int .i64 (c x y))) (hT : TO c) (h0 : ∀ x y, c x y = 0 → x = y) (l : List Pl) (hl : l.length < 4611686018427387904) (hne : l ≠ []) :
  DCall P 67 [.own 0, .fn g []] [.row 98 2 (plcl l)] (.tup []) [.row 98 2 (plcl (srtC c l))] := by
 have hC := hc (0, 0) (0, 0)
 unfold PCall at hC
 show ACall _ _ _ _ _
 unfold ACall
 refine ⟨fn67.callable, fun M0 σ w vs hs hv => ?_⟩
 obtain ⟨hvl, hv⟩ := hv
 obtain ⟨v0, v1, rfl⟩ : ∃ v0 v1, vs = [v0, v1] := by
  match vs, hvl with
  | [a, b], _ => exact ⟨a, b, rfl⟩
 have r0 : σ[0]? = some v0 := (hv 0 _ rfl).own_inv
 obtain ⟨fs, e1, f1, _⟩ := (hv 1 _ rfl).fn_inv
 have e1 : v1 = .func (.func g) #[] fs := e1
 have ef : fs = #[] := Array.eq_empty_of_size_eq_zero f1
 subst ef
 subst e1
 obtain ⟨_, hr⟩ := hs.ok 0 _ v0 rfl r0
 rcases hr with ⟨e, _⟩ | ⟨gb, cap, cur, rfl, hg, k1, k2, k3, k4⟩
 ·exact absurd (by simpa [plcl] using e) hne
 have hlt : gb < w.heap.size := (Array.getElem?_eq_some_iff.1 hg).1
 have hmb : Mb [Ob.row 98 2 (plcl l)] σ gb := ⟨0, _, _, rfl, rfl, r0, rfl⟩
 rw [plcl_len] at k1
 have hcur : ∀ i x j, l[i]? = some x → j < 2 → cur[i * 2 + j]? = some ((encP x)[j]!) := fun i x j hx hj => by
  have hi := (List.getElem?_eq_some_iff.1 hx).1
  obtain ⟨_, _, h3⟩ := k4 i (plcs x) (by rw [plcl_get, hx]; rfl)
  have hj2 : j < (plcs x).length := hj
  have := rv_enc x j _ _ (List.getElem?_eq_getElem hj2) (h3 j _ (List.getElem?_eq_getElem hj2))
  have hb : i * 2 + j < cur.size := by omega
  rw [Array.getElem?_eq_getElem hb]
  rw [Array.getD_eq_getD_getElem?, Array.getElem?_eq_getElem hb] at this
  exact congrArg some this
 have hH : Go.Sort.HoldsK encP 2 w gb 0 l.toArray := by
  intro t ht
  rw [Go.Sort.size_flatK, List.size_toArray] at ht
  have hq : t / 2 < l.length := by omega
  refine ⟨?_, ?_⟩
  ·rw [Go.Sort.get_flatK _ _ _ _ (by simpa using ht)]
   have e2 := hcur (t / 2) l[t / 2] (t % 2) (List.getElem?_eq_getElem hq) (Nat.mod_lt _ (by decide))
   rw [show t / 2 * 2 + t % 2 = t by omega] at e2
   rw [show (0 : Nat) + t = t by omega]
   unfold World.cell?
   rw [hg]
   show cur[t]? = _
   rw [e2, getElem!_pos l.toArray (t / 2) (by simpa using hq)]
   rfl
  ·unfold World.frozen?
   rw [hg]
   simp
 have hcm := cmp_lays hc (w := w) (blk := gb) (off := 0) (size := l.toArray.size) hlt (fun b hb => by
  obtain ⟨m, h1, h2⟩ := hs.glob b hb
  exact ⟨fun e => h1 (.inr (by rw [show b = gb from e]; exact hmb)), m, h2⟩)
 have hS : Go.Sort.SWO (ltOf c) := ⟨fun x => by unfold ltOf; rw [hT.selfC]; rfl, fun x y z h1 h2 => by
   unfold ltOf at *
   exact decide_eq_true (hT.strict (of_decide_eq_true h1) (by have := of_decide_eq_true h2; omega)), fun x y z h1 h2 => by
   unfold ltOf at *
   have k1 := of_decide_eq_false h1
   have k2 := of_decide_eq_false h2
   refine decide_eq_false fun hx => ?_
   have n1 := hT.neg x y
   have n2 := hT.neg y z
   have n3 := hT.neg x z
   have := hT.tr z y x (by omega) (by omega)
   omega⟩
 have hcon := AnyQ.slices_SortFunc Tryz.sortP 2 Tryz.isAgg98 Tryz.sizeOf98 encP encP_len encP_one c hS g #[] gb 0 cap l.toArray w hC.1 hcm hH hlt (by simpa using hl)
 rw [List.size_toArray] at hcon
 have elen : (plcl l).length = l.length := plcl_len l
 rw [elen] at r0 ⊢
 refine Calls.mono hcon ?_
 rintro e w' ⟨rfl, d', n, os, hp, hso, rfl⟩
 have hd' := srtC_unique hT h0 (d := l.toArray) (by simpa using hp) (by simpa using hso)
 have hd'' : d'.toList = srtC c l := hd'
 have hdl : d'.size = l.length := by rw [← Array.length_toList, hd'', srtC_len]
 obtain ⟨s1, x1⟩ := hs.write (w' := Go.Sort.putRowK encP 2 (Go.Sort.ahead w n) gb 0 d') (b := gb) (id := 0) rfl (by rw [r0]) rfl rfl (o' := .row 98 2 (plcl (srtC c l)))
  rfl ⟨rfl, fun _ => Nat.le_add_right _ _⟩ rfl (by rw [Go.Sort.putRowK, Go.Sort.size_putRow]; rfl) (fun b hb => by
   unfold Go.Sort.putRowK Go.Sort.putRow Go.Sort.mapBlock
   simp [Array.getElem?_modify, Ne.symm hb]) (fun hx => by
   refine ⟨by decide, .inr ⟨gb, cap, Go.Sort.putCells id 0 (Go.Sort.flatK encP 2 d') cur, by rw [plcl_len, srtC_len], ?_, by rw [plcl_len, srtC_len]; exact k1, k2, ?_, fun i cs hcs => ?_⟩⟩
   ·unfold Go.Sort.putRowK Go.Sort.putRow Go.Sort.mapBlock
    simp [Array.getElem?_modify, hg, Go.Sort.onCells]
   ·unfold Go.Sort.putCells; rw [Array.size_mapIdx]; exact k3
   ·rw [plcl_get, Option.map_eq_some_iff] at hcs
    obtain ⟨x, hx, rfl⟩ := hcs
    refine ⟨rfl, rfl, fun j y hy => ?_⟩
    have hi : i < l.length := by rw [← srtC_len (c := c)]; exact (List.getElem?_eq_some_iff.1 hx).1
    have hj : j < 2 := (List.getElem?_eq_some_iff.1 hy).1
    have hdx : d'[i]! = x := by
     have : d'.toList[i]? = some x := by rw [hd'']; exact hx
     rw [Array.getElem?_toList] at this
     rw [getElem!_pos d' i (by omega)]
     rw [Array.getElem?_eq_getElem (by omega)] at this
     exact Option.some.inj this
    have e3 : (Go.Sort.putCells id 0 (Go.Sort.flatK encP 2 d') cur).getD (i * 2 + j) undef = (encP x)[j]! := by
     rw [Array.getD_eq_getD_getElem?]
     unfold Go.Sort.putCells
     rw [Array.getElem?_mapIdx, Array.getElem?_eq_getElem (show i * 2 + j < cur.size by omega), Option.map_some, if_pos ⟨Nat.zero_le _, by rw [Go.Sort.size_flatK]; omega⟩, Option.getD_some]
     show (Go.Sort.flatK encP 2 d')[i * 2 + j - 0]! = _
     rw [Nat.sub_zero, Go.Sort.get_flatK _ _ _ _ (by omega), show (i * 2 + j) / 2 = i by omega, show (i * 2 + j) % 2 = j by omega, hdx]
    rw [e3]
    exact enc_rv x j y hy)
 have hB : Below (Go.Sort.putRowK encP 2 (Go.Sort.ahead w n) gb 0 d').heap.size (Go.Sort.putRowK encP 2 (Go.Sort.ahead w n) gb 0 d') (sortWorldK encP 2 w gb 0 n d' os) :=
  ⟨rfl, ⟨rfl, fun _ => Nat.le_refl _⟩, rfl, by unfold sortWorldK; rw [Go.Sort.size_grow]; omega, fun k hk => by unfold sortWorldK; exact Go.Sort.heap_grow_old _ _ hk⟩
 refine ⟨_, .tup [], _, σ, rfl, s1.below hB, x1.trans (Ext.of_below hB), .tup _ _ _ rfl fun j y hy => by simp at hy, rfl, rfl⟩
theorem lib_Len (n : Nat) (hn : n < 4294967296) : PCall P 95 [.int .u64 (n : Int)] (.int .i64 (Lib.bitLen n : Nat)) := by
 unfold PCall
 refine ⟨fn95.callable, fun M0 w vs hM hG hv => ?_⟩
 obtain ⟨hl, hv⟩ := hv
 obtain ⟨v0, rfl⟩ : ∃ v0, vs = [v0] := by
  match vs, hl with
  | [a], _ => exact ⟨a, rfl⟩
 have e0 := (hv 0 _ rfl).int_inv
 simp at e0
 subst e0
 have h := Any.bits_Len (SlLaysF0.n15.bits (P := P) (ρ := Tryz.sortP_ren) { Tryz.sortP with }) (n : Int) w (by omega) (by omega)
 rw [Int.toNat_natCast] at h
 refine Calls.mono (show Calls P 95 _ w _ from h) ?_
 rintro e w' ⟨rfl, rfl⟩
 exact ⟨_, rfl, Below.refl _ _, .int _ _ _⟩
theorem insert_nil (g : FuncId) : DCall P 109 [.own 0, .int .i64 0, .int .i64 0, .fn g []] [.row 98 2 []] (.tup []) [.row 98 2 []] := by
 refine DCall.of_awp tok mixed fn109 (Nat.le_of_ble_eq_true rfl) ?_
 (conv => whnf); repeat' ((with_reducible refine Box.mk ?_) <;> conv => whnf)
 refine aloop (fun _ : Unit => True) (fun _ => ⟨envL [(2, .int .i64 0), (8, .int .i64 1)], [.row 98 2 []]⟩) (fun _ => 0) () trivial (weak_to ⟨rfl, rfl, trivial⟩ rfl) ?_
 rintro _ _
 (conv => whnf); (repeat' ((with_reducible first | refine Box.mk ?_ | refine And.intro (fun _ => ?_) (fun _ => ?_) | fail) <;> conv => whnf))
 ·rename_i h; exact absurd h (by decide)
 ·exact weak_to ⟨rfl, trivial⟩ rfl
theorem pdq_nil (g : FuncId) (k : Int) : DCall P 94 [.own 0, .int .i64 0, .int .i64 0, .int .i64 k, .fn g []] [.row 98 2 []] (.tup []) [.row 98 2 []] := by
 refine DCall.of_awp tok mixed fn94 (Nat.le_of_ble_eq_true rfl) ?_
 (conv => whnf); repeat' ((with_reducible refine Box.mk ?_) <;> conv => whnf)
 refine aloop (fun _ : Unit => True) (fun _ => ⟨envL [(0, .own 0), (1, .int .i64 0), (2, .int .i64 0), (3, .int .i64 k), (4, .fn g []), (10, .bool true), (11, .bool true)], [.row 98 2 []]⟩) (fun _ => 0) () trivial (weak_to ⟨rfl, rfl, rfl, rfl, rfl, rfl, rfl, trivial⟩ rfl) ?_
 rintro _ _
 (conv => whnf); (repeat' ((with_reducible first | refine Box.mk ?_ | refine And.intro (fun _ => ?_) (fun _ => ?_) | fail) <;> conv => whnf))
 ·refine aW [0] (insert_nil g) rfl rfl rfl ?_
  (conv => whnf); repeat' ((with_reducible refine Box.mk ?_) <;> conv => whnf)
  exact weak_to ⟨rfl, trivial⟩ rfl
 all_goals (exfalso; rename_i h _; exact absurd (show IntKind.i64.wrap (0 - 0) ≤ 12 by decide) h)
theorem sortF_nil (g : FuncId) : DCall P 67 [.own 0, .fn g []] [.row 98 2 []] (.tup []) [.row 98 2 []] := by
 have q1 := lib_Len 0 (by decide)
 have e1 : IntKind.u64.wrap 0 = ((0 : Nat) : Int) := by decide
 refine DCall.of_awp tok mixed fn67 (Nat.le_of_ble_eq_true rfl) ?_
 (conv => whnf); (repeat' ((first | (with_reducible refine Box.mk ?_) | ((with_reducible show ACall _ _ _ _ _); refine ACall.of_pure (by assumption) (by rfl) ?_) | fail) <;> conv => whnf))
 refine aW [0] (pdq_nil g _) rfl rfl rfl ?_
 (conv => whnf); repeat' ((with_reducible refine Box.mk ?_) <;> conv => whnf)
 exact weak_to ⟨rfl, trivial⟩ rfl
theorem sortF_ok {c : Pl → Pl → Int} {g : FuncId} (hc : ∀ x y, @PCall told P g [plv x, plv y] (.int .i64 (c x y))) (hT : TO c) (h0 : ∀ x y, c x y = 0 → x = y) (l : List Pl) (hl : l.length < 4611686018427387904) :
  DCall P 67 [.own 0, .fn g []] [.row 98 2 (plcl l)] (.tup []) [.row 98 2 (plcl (srtC c l))] := by
 cases l with
 | nil =>
  have e : srtC c [] = [] := List.length_eq_zero_iff.1 (by rw [srtC_len]; rfl)
  rw [e]
  exact sortF_nil g
 | cons x r => exact sortF_own hc hT h0 (x :: r) hl (by simp)
end Go.Proofs.YtnajpmepcffnaaaGreatDoor
end

section
/- cache: which templates may be; a template of one's own; a new cache; finding. -/
namespace Go.Proofs.YtnajpmepcffnaaaGreatDoor
open Go.Ve

theorem weak_nl {N0 : Nat} {s : AS} (L : List (Nat × Bool)) {H1 : Hp} {l1 l2 : List (Nat × AV)} (t sz : Nat) (h0 : 0 < sz) (hok : okL s.H.length L = true) (hpre : preL 0 N0 L = true) (hH : heapOf (gOf L 0) s.H L = H1)
  (h : EnvIs (fun i => renV (gOf L 0) (s.env i)) l1) (hl : NrE H1.length (envL l1) l2) (hh : NrH H1.length H1 H1) : Weak N0 s ⟨envL l2, H1 ++ [.row t sz []]⟩ :=
 (weak_ren_to L hok hpre hH h).trans (weak_nilrow (s := ⟨envL l1, H1⟩) t sz h0 hl hh)
section
variable {α : Type} {q : α → Bool}
def idxG (q : α → Bool) : Nat → List α → Int
 | _, [] => -1
 | k, x :: xs => if q x then (k : Int) else idxG q (k + 1) xs
theorem idxG_hit : ∀ {l : List α} {k i : Nat} {x : α}, l[i]? = some x → q x = true → (∀ j y, j < i → l[j]? = some y → q y = false) → idxG q k l = ((k + i : Nat) : Int)
 | [], k, i, x, h, _, _ => by simp at h
 | y :: l, k, 0, x, h, hq, _ => by simp at h; subst h; simp [idxG, hq]
 | y :: l, k, i + 1, x, h, hq, hn => by
  have h0 := hn 0 y (by omega) rfl
  rw [idxG, if_neg (by simp [h0]), idxG_hit (k := k + 1) (i := i) (by simpa using h) hq (fun j z hj hz => hn (j + 1) z (by omega) (by simpa using hz))]
  congr 1; omega
theorem idxG_miss : ∀ {l : List α} {k : Nat}, (∀ y ∈ l, q y = false) → idxG q k l = -1
 | [], _, _ => rfl
 | y :: l, k, h => by rw [idxG, if_neg (by simp [h y List.mem_cons_self]), idxG_miss fun z hz => h z (List.mem_cons_of_mem _ hz)]
theorem idxG_any : ∀ {l : List α} {k : Nat}, decide (0 ≤ idxG q k l) = l.any q
 | [], _ => rfl
 | y :: l, k => by
  rw [idxG, List.any_cons]
  cases hq : q y with
  | true => simp
  | false => simpa using idxG_any (l := l) (k := k + 1)
end
theorem scl_cells (l : List Sc) : allCells 3 (scl l) := fun c hc => by
 obtain ⟨x, _, rfl⟩ := List.mem_map.1 hc; exact ⟨rfl, rfl⟩
theorem sidxFn_ok {f : FuncId} {q : Sc → Bool} (l : List Sc) (hf : ∀ p ∈ l, PCall P f [sv p] (.bool (q p))) (hl : l.length ≤ 9223372036854775807) :
  PCall P 107 [.sl (scl l), .fn f []] (.int .i64 (idxG q 0 l)) := by
 have hlc := scl_len l
 refine PCall.of_awp tok mixed fn107 (Nat.le_of_ble_eq_true rfl) ?_
 (conv => whnf); repeat' ((with_reducible refine Box.mk ?_) <;> conv => whnf)
 refine aloopH (fun i : Nat => i ≤ l.length ∧ ∀ j x, j < i → l[j]? = some x → q x = false) (fun i : Nat => [(0, .sl (scl l)), (1, .fn f []), (7, .int .i64 ((scl l).length : Int)), (8, .int .i64 i)]) (fun _ H => H) (fun i => l.length - i) 0 ⟨Nat.zero_le _, fun j c h => by omega⟩ (weak_to ⟨rfl, rfl, rfl, rfl, trivial⟩ rfl) ?_
 rintro i ⟨hi, hok⟩
 by_cases hlt : i < l.length
 ·have hx := List.getElem?_eq_getElem hlt
  have hfx := hf _ (List.mem_of_getElem? hx)
  have hok2 : q l[i] = false → ∀ j x, j < i + 1 → l[j]? = some x → q x = false := fun hne j x hj hxj => by
   rcases Nat.lt_or_ge j i with h | h
   ·exact hok j x h hxj
   ·have : j = i := by omega
    subst this
    rw [hx] at hxj
    rw [← Option.some.inj hxj]; exact hne
  have hit : q l[i] = true → idxG q 0 l = (i : Int) := fun he => by
   rw [idxG_hit hx he hok, Nat.zero_add]
  generalize l[i] = x at *
  generalize q x = b at *
  (conv => whnf); (repeat' ((with_reducible first | refine Box.mk ?_ | refine And.intro (fun _ => ?_) (fun _ => ?_) | fail) <;> conv => whnf))
  rotate_left
  ·exfalso; rename_i h; have h : ¬ (i : Int) < ((scl l).length : Int) := h; omega
  refine ⟨by omega, scc x, scl_get hx, rfl, ?_⟩
  cases b
  ·(conv => whnf); (repeat' ((first | (with_reducible refine Box.mk ?_) | ((with_reducible show ACall _ _ _ _ _); refine ACall.of_pure (by assumption) (by rfl) ?_) | fail) <;> conv => whnf))
   exact ⟨i + 1, ⟨hlt, hok2 rfl⟩, by omega, weak_to ⟨rfl, rfl, rfl, wrap_nat (m := 1) (by omega), trivial⟩ rfl⟩
  ·(conv => whnf); (repeat' ((first | (with_reducible refine Box.mk ?_) | ((with_reducible show ACall _ _ _ _ _); refine ACall.of_pure (by assumption) (by rfl) ?_) | fail) <;> conv => whnf))
   exact congrArg (AV.int .i64) (hit rfl).symm
 ·have : i = l.length := by omega
  subst this
  (conv => whnf); (repeat' ((with_reducible first | refine Box.mk ?_ | refine And.intro (fun _ => ?_) (fun _ => ?_) | fail) <;> conv => whnf))
  ·exfalso; rename_i h; have h : ((l.length : Nat) : Int) < ((scl l).length : Int) := h; omega
  refine congrArg (AV.int .i64) ?_
  rw [idxG_miss]
  intro y hy
  obtain ⟨j, hj⟩ := List.getElem?_of_mem hy
  exact hok j y (List.getElem?_eq_some_iff.1 hj).1 hj
theorem sconFn_ok {f : FuncId} {q : Sc → Bool} (l : List Sc) (hf : ∀ p ∈ l, PCall P f [sv p] (.bool (q p))) (hl : l.length ≤ 9223372036854775807) :
  PCall P 89 [.sl (scl l), .fn f []] (.bool (l.any q)) := by
 have q1 := sidxFn_ok l hf hl
 rw [← idxG_any (k := 0)]
 refine PCall.of_awp tok mixed fn89 (Nat.le_of_ble_eq_true rfl) ?_
 (conv => whnf); (repeat' ((first | (with_reducible first | refine Box.mk ?_ | refine And.intro (fun _ => ?_) (fun _ => ?_) | fail) | ((with_reducible show ACall _ _ _ _ _); refine ACall.of_pure (by assumption) (by rfl) ?_) | fail) <;> conv => whnf))
 ·exact bool_true (decide_eq_true (by assumption))
 ·exact bool_false (decide_eq_false (by assumption))

def tcs (t : Tm) : List AV := [.int .i64 t.id, .int .i64 t.scope, .sl (scl t.fields)]
def tv (t : Tm) : AV := .agg (tcs t)
def ztv : AV := .agg [.int .i64 0, .int .i64 0, .nils]
theorem wrong_ok (s : Sc) : PCall P 87 [sv s] (.bool (decide (saysS s = -1))) := by
 have q1 := fSays_ok s
 refine PCall.of_awp tok mixed fn87 (Nat.le_of_ble_eq_true rfl) ?_
 (conv => whnf); (repeat' ((first | (with_reducible first | refine Box.mk ?_ | refine And.intro (fun _ => ?_) (fun _ => ?_) | fail) | ((with_reducible show ACall _ _ _ _ _); refine ACall.of_pure (by assumption) (by rfl) ?_) | fail) <;> conv => whnf))
 ·exact bool_true (decide_eq_true (by assumption))
 ·exact bool_false (decide_eq_false (by assumption))
theorem cRight_ok (t : Tm) (hl : t.fields.length ≤ 1000000000) : PCall P 58 [tv t] (.bool (rightT t)) := by
 have q1 := sconFn_ok (q := fun s => decide (saysS s = -1)) t.fields (fun p _ => wrong_ok p) (by omega)
 have hlc := scl_len t.fields
 have e : (t.fields.all fun s => decide (saysS s ≠ -1)) = !(t.fields.any fun s => decide (saysS s = -1)) := by
  rw [List.not_any_eq_all_not]; congr 1; funext s; simp
 unfold rightT
 rw [e]
 generalize (t.fields.any fun s => decide (saysS s = -1)) = b at *
 refine PCall.of_awp tok mixed fn58 (Nat.le_of_ble_eq_true rfl) ?_
 (conv => whnf); (repeat' ((first | (with_reducible first | refine Box.mk ?_ | refine And.intro (fun _ => ?_) (fun _ => ?_) | fail) | ((with_reducible show ACall _ _ _ _ _); refine ACall.of_pure (by assumption) (by rfl) ?_) | fail) <;> conv => whnf))
 all_goals first
  | (refine bool_false ?_; rw [decide_eq_false (by omega)]; rfl)
  | (refine congrArg AV.bool ?_; rw [decide_eq_true (by omega)]; cases b <;> rfl)
theorem own_ok (t : Tm) (hl : t.fields.length ≤ 1000000000) : PCall P 37 [tv t] (tv t) := by
 have hlc := scl_len t.fields
 refine PCall.of_awp tok mixed fn37 (Nat.le_of_ble_eq_true rfl) ?_
 (conv => whnf); (repeat' ((first | (with_reducible refine Box.mk ?_) | ((with_reducible show _ ∧ _ ∧ _); refine ⟨by omega, by omega, ?_⟩) | fail) <;> conv => whnf))
 refine ⟨by show ((scl t.fields).length : Int) * 24 ≤ _; omega, by omega, ?_⟩
 (conv => whnf); repeat' ((with_reducible refine Box.mk ?_) <;> conv => whnf)
 refine ⟨scl_cells _, ?_⟩
 (conv => whnf); repeat' ((with_reducible refine Box.mk ?_) <;> conv => whnf)
 refine res1_eq (congrArg (fun x => AV.agg [.int .i64 t.id, .int .i64 t.scope, .sl x]) ?_)
 show (scl t.fields).take (List.replicate ((scl t.fields).length : Int).toNat [AV.int .i64 0, .int .u32 0, .int .i64 0]).length ++ (List.replicate ((scl t.fields).length : Int).toNat [AV.int .i64 0, .int .u32 0, .int .i64 0]).drop (scl t.fields).length = scl t.fields
 rw [List.length_replicate, Int.toNat_natCast, List.take_length, List.drop_of_length_le (by rw [List.length_replicate]; exact Nat.le_refl _), List.append_nil]

def pk2 : List LK := [.int .u32, .int .i64]
def ces (es : Es) : List (List AV × AV × Nat) := es.map fun e => (plcs (keyH e.1), tv e.1.t, e.2)
def CHp (es : Es) (clk : Nat) : Hp := [.box 67 [.own 1], .map pk2 (ces es) clk]
def cH (c : Cs) : Hp := bif c.nl then [.box 67 [.nilm]] else CHp c.es c.clk
theorem ces_len (es : Es) : (ces es).length = es.length := List.length_map _
theorem plcs_inj {p q : Pl} (h : plcs p = plcs q) : p = q := by
 unfold plcs at h
 simp only [List.cons.injEq, AV.int.injEq, true_and, and_true] at h
 exact Prod.ext (by omega) h.2
theorem ces_at {es : Es} {j : Nat} {e : List AV × AV × Nat} (h : (ces es)[j]? = some e) : ∃ x, es[j]? = some x ∧ e = (plcs (keyH x.1), tv x.1.t, x.2) := by
 unfold ces at h
 rw [List.getElem?_map, Option.map_eq_some_iff] at h
 obtain ⟨x, h1, h2⟩ := h
 exact ⟨x, h1, h2.symm⟩
theorem ces_mem {es : Es} {e : List AV × AV × Nat} (h : e ∈ ces es) : ∃ x ∈ es, e = (plcs (keyH x.1), tv x.1.t, x.2) := by
 obtain ⟨x, hx, rfl⟩ := List.mem_map.1 h
 exact ⟨x, hx, rfl⟩
theorem ces_ok {es : Es} (hn : (keysE es).Nodup) (hs : (es.map (·.2)).Nodup) : ((ces es).map (·.1)).Nodup ∧ ((ces es).map (·.2.2)).Nodup := by
 unfold ces
 rw [List.map_map, List.map_map]
 refine ⟨?_, hs⟩
 have : (es.map fun e => plcs (keyH e.1)) = (keysE es).map plcs := by unfold keysE; rw [List.map_map]; rfl
 show (es.map fun e => plcs (keyH e.1)).Nodup
 rw [this, List.Nodup, List.pairwise_map]
 exact hn.imp fun h e => h (plcs_inj e)
theorem atC_yes {ks ks' : List LK} {es : Es} {i : Nat} {x : Hd × Nat} {cs : List AV} {Y : Nat → (List AV × AV × Nat) → Prop} {N : Prop} (hk : ks = ks') (hn : (keysE es).Nodup) (hx : es[i]? = some x) (hc : plcs (keyH x.1) = cs) (h : Y i (plcs (keyH x.1), tv x.1.t, x.2)) :
  ks = ks' ∧ (∀ (j : Nat) (e : List AV × AV × Nat), (ces es)[j]? = some e → e.1 = cs → Y j e) ∧ ((∀ e ∈ ces es, e.1 ≠ cs) → N) := by
 refine ⟨hk, fun j e hj he => ?_, fun hno => ?_⟩
 ·obtain ⟨y, h1, rfl⟩ := ces_at hj
  have := key_in hn hx h1 (plcs_inj (hc.trans he.symm))
  subst this
  rw [hx] at h1; cases h1
  exact h
 ·exact absurd hc (hno _ (List.mem_map.2 ⟨x, List.mem_of_getElem? hx, rfl⟩))
theorem atC_no {ks ks' : List LK} {es : Es} {p : Pl} {cs : List AV} {Y : Nat → (List AV × AV × Nat) → Prop} {N : Prop} (hk : ks = ks') (hp : p ∉ keysE es) (hc : plcs p = cs) (h : N) :
  ks = ks' ∧ (∀ (j : Nat) (e : List AV × AV × Nat), (ces es)[j]? = some e → e.1 = cs → Y j e) ∧ ((∀ e ∈ ces es, e.1 ≠ cs) → N) := by
 refine ⟨hk, fun j e hj he => ?_, fun _ => h⟩
 obtain ⟨y, h1, rfl⟩ := ces_at hj
 exact absurd (keysE_mem.2 ⟨y, List.mem_of_getElem? h1, plcs_inj (he.trans hc.symm)⟩) hp
theorem cnew_ok : DCall P 7 [] [] (.ptr 0 0) (cH newS) := by
 refine DCall.of_awp tok mixed fn7 (Nat.le_of_ble_eq_true rfl) ?_
 (conv => whnf); repeat' ((with_reducible refine Box.mk ?_) <;> conv => whnf)
 exact weak_to ⟨rfl, trivial⟩ rfl
def foundV (o : Option Hd) : AV := match o with
 | some h => .tup [tv h.t, .bool true]
 | none => .tup [ztv, .bool false]
theorem find_ok (c : Cs) (hc : CI c) (d : Nat) (i : Int) : DCall P 18 [.ptr 0 0, .int .u32 (d : Int), .int .i64 i] (cH c) (foundV (findE c.es (d, i))) (cH c) := by
 obtain ⟨nl, es, clk⟩ := c
 cases nl
 ·show DCall P _ _ (CHp es clk) _ (CHp es clk)
  cases hf : findE es (d, i) with
  | none =>
   refine DCall.of_awp tok mixed fn18 (Nat.le_of_ble_eq_true rfl) ?_
   (conv => whnf); (repeat' ((with_reducible first | refine Box.mk ?_ | refine And.intro (fun _ => ?_) (fun _ => ?_) | fail) <;> conv => whnf))
   all_goals try contradiction
   refine atC_no rfl (findE_none hf) rfl ?_
   (conv => whnf); repeat' ((with_reducible refine Box.mk ?_) <;> conv => whnf)
   exact weak_ren_to [(0, true), (1, true)] rfl rfl rfl ⟨rfl, trivial⟩
  | some h =>
   obtain ⟨⟨e, he, rfl⟩, hk⟩ := findE_some hf
   obtain ⟨j, hj⟩ := List.getElem?_of_mem he
   have hr := hc.right e he
   have hfl : e.1.t.fields.length ≤ 64 := by
    unfold rightT at hr
    rw [Bool.and_eq_true] at hr
    have := of_decide_eq_true hr.1
    omega
   have q1 := own_ok e.1.t (by omega)
   refine DCall.of_awp tok mixed fn18 (Nat.le_of_ble_eq_true rfl) ?_
   (conv => whnf); (repeat' ((with_reducible first | refine Box.mk ?_ | refine And.intro (fun _ => ?_) (fun _ => ?_) | fail) <;> conv => whnf))
   all_goals try contradiction
   refine atC_yes rfl hc.nodup hj (by rw [hk]; rfl) ?_
   (conv => whnf); (repeat' ((first | (with_reducible refine Box.mk ?_) | ((with_reducible show ACall _ _ _ _ _); refine ACall.of_pure (by assumption) (by rfl) ?_) | fail) <;> conv => whnf))
   exact weak_ren_to [(0, true), (1, true)] rfl rfl rfl ⟨rfl, trivial⟩
 ·have hes : es = [] := (hc.nil rfl).1
  subst hes
  show DCall P _ _ [.box 67 [.nilm]] _ [.box 67 [.nilm]]
  refine DCall.of_awp tok mixed fn18 (Nat.le_of_ble_eq_true rfl) ?_
  (conv => whnf); (repeat' ((with_reducible first | refine Box.mk ?_ | refine And.intro (fun _ => ?_) (fun _ => ?_) | fail) <;> conv => whnf))
  all_goals try contradiction
  exact weak_ren_to [(0, true)] rfl rfl rfl ⟨rfl, trivial⟩
end Go.Proofs.YtnajpmepcffnaaaGreatDoor
end

section
/- cache: Set, Drop. -/
namespace Go.Proofs.YtnajpmepcffnaaaGreatDoor
open Go.Ve

theorem rightT_len {t : Tm} (h : rightT t = true) : t.fields.length ≤ 64 := by
 unfold rightT at h
 rw [Bool.and_eq_true] at h
 have := of_decide_eq_true h.1
 omega
theorem set_bad (c : Cs) (h : Hd) (hl : h.t.fields.length ≤ 1000000000) (hr : rightT h.t = false) : DCall P 42 [.ptr 0 0, .int .u32 (h.dom : Int), tv h.t] (cH c) (.int .i64 3) (cH c) := by
 have q1 := cRight_ok h.t hl
 rw [hr] at q1
 obtain ⟨nl, es, clk⟩ := c
 cases nl
 ·show DCall P _ _ (CHp es clk) _ (CHp es clk)
  refine DCall.of_awp tok mixed fn42 (Nat.le_of_ble_eq_true rfl) ?_
  (conv => whnf); (repeat' ((first | (with_reducible first | refine Box.mk ?_ | refine And.intro (fun _ => ?_) (fun _ => ?_) | fail) | ((with_reducible show ACall _ _ _ _ _); refine ACall.of_pure (by assumption) (by rfl) ?_) | fail) <;> conv => whnf))
  all_goals try contradiction
  exact weak_ren_to [(0, true), (1, true)] rfl rfl rfl ⟨rfl, trivial⟩
 ·show DCall P _ _ [.box 67 [.nilm]] _ [.box 67 [.nilm]]
  refine DCall.of_awp tok mixed fn42 (Nat.le_of_ble_eq_true rfl) ?_
  (conv => whnf); (repeat' ((first | (with_reducible first | refine Box.mk ?_ | refine And.intro (fun _ => ?_) (fun _ => ?_) | fail) | ((with_reducible show ACall _ _ _ _ _); refine ACall.of_pure (by assumption) (by rfl) ?_) | fail) <;> conv => whnf))
  all_goals try contradiction
  exact weak_ren_to [(0, true)] rfl rfl rfl ⟨rfl, trivial⟩
theorem setE2_at {es : Es} (hn : (keysE es).Nodup) {i : Nat} {x : Hd × Nat} (hx : es[i]? = some x) {h : Hd} (hk : keyH x.1 = keyH h) : (ces es).set i (plcs (keyH x.1), tv h.t, x.2) = ces (setE2 es h) := by
 have hi := (List.getElem?_eq_some_iff.1 hx).1
 refine List.ext_getElem? fun j => ?_
 rw [List.getElem?_set]
 by_cases hj : i = j
 ·subst hj
  rw [if_pos rfl, if_pos (by rw [ces_len]; exact hi)]
  unfold ces setE2
  rw [List.getElem?_map, List.getElem?_map, hx]
  simp only [Option.map_some]
  rw [if_pos hk, hk]
 ·rw [if_neg hj]
  unfold ces setE2
  rw [List.getElem?_map, List.getElem?_map, List.getElem?_map]
  cases hy : es[j]? with
  | none => rfl
  | some y =>
   simp only [Option.map_some]
   rw [if_neg (fun hky => hj (key_in hn hx hy (hk.trans hky.symm)))]
theorem set_old (es : Es) (clk : Nat) (hc : CI ⟨false, es, clk⟩) (h : Hd) (hr : rightT h.t = true) (hk : keyH h ∈ keysE es) :
  DCall P 42 [.ptr 0 0, .int .u32 (h.dom : Int), tv h.t] (CHp es clk) (.int .i64 0) (CHp (setE2 es h) clk) := by
 have hl := rightT_len hr
 have q1 := cRight_ok h.t (by omega)
 have q2 := own_ok h.t (by omega)
 rw [hr] at q1
 obtain ⟨e, he, hke⟩ := keysE_mem.1 hk
 obtain ⟨j, hj⟩ := List.getElem?_of_mem he
 have ok := ces_ok hc.nodup hc.stamps
 have hcs : plcs (keyH e.1) = [.int .u32 (h.dom : Int), .int .i64 h.t.id] := by rw [hke]; rfl
 refine DCall.of_awp tok mixed fn42 (Nat.le_of_ble_eq_true rfl) ?_
 (conv => whnf); (repeat' ((first | (with_reducible first | refine Box.mk ?_ | refine And.intro (fun _ => ?_) (fun _ => ?_) | fail) | ((with_reducible show ACall _ _ _ _ _); refine ACall.of_pure (by assumption) (by rfl) ?_) | fail) <;> conv => whnf))
 all_goals try contradiction
 refine ⟨[(9, [3, 4, 5])], by kernel_rfl, ?_⟩
 (conv => whnf); repeat' ((with_reducible refine Box.mk ?_) <;> conv => whnf)
 refine ⟨ok, atC_yes rfl hc.nodup hj hcs ?_⟩
 (conv => whnf); repeat' ((with_reducible refine Box.mk ?_) <;> conv => whnf)
 refine ⟨⟨⟨rfl, rfl⟩, ⟨rfl, rfl⟩, ⟨ok, atC_yes rfl hc.nodup hj hcs ⟨rfl, rfl⟩⟩, trivial⟩, ?_⟩
 (conv => whnf); repeat' ((with_reducible refine Box.mk ?_) <;> conv => whnf)
 refine ⟨[], by kernel_rfl, ?_⟩
 (conv => whnf); (repeat' ((first | (with_reducible refine Box.mk ?_) | ((with_reducible show Exists _); refine ⟨_, ACall.of_pure (by assumption) (by rfl) ⟨rfl, rfl⟩, ?_⟩) | fail) <;> conv => whnf))
 refine ⟨ok, atC_yes rfl hc.nodup hj hcs ?_⟩
 (conv => whnf); repeat' ((with_reducible refine Box.mk ?_) <;> conv => whnf)
 refine weak_ren_to [(0, true), (1, true)] rfl rfl ?_ ⟨rfl, trivial⟩
 rw [show CHp (setE2 es h) clk = [.box 67 [.own 1], .map pk2 ((ces es).set j (plcs (keyH e.1), tv h.t, e.2)) clk] by rw [setE2_at hc.nodup hj hke]; rfl, hcs]
 rfl
theorem set_full (es : Es) (clk : Nat) (hc : CI ⟨false, es, clk⟩) (h : Hd) (hr : rightT h.t = true) (hk : keyH h ∉ keysE es) (hf : 64 ≤ es.length) :
  DCall P 42 [.ptr 0 0, .int .u32 (h.dom : Int), tv h.t] (CHp es clk) (.int .i64 5) (CHp es clk) := by
 have hl := rightT_len hr
 have q1 := cRight_ok h.t (by omega)
 rw [hr] at q1
 have ok := ces_ok hc.nodup hc.stamps
 have hcl := ces_len es
 refine DCall.of_awp tok mixed fn42 (Nat.le_of_ble_eq_true rfl) ?_
 (conv => whnf); (repeat' ((first | (with_reducible first | refine Box.mk ?_ | refine And.intro (fun _ => ?_) (fun _ => ?_) | fail) | ((with_reducible show ACall _ _ _ _ _); refine ACall.of_pure (by assumption) (by rfl) ?_) | fail) <;> conv => whnf))
 all_goals try contradiction
 refine ⟨[(9, [3, 4, 5])], by kernel_rfl, ?_⟩
 (conv => whnf); repeat' ((with_reducible refine Box.mk ?_) <;> conv => whnf)
 refine ⟨ok, atC_no rfl hk rfl ?_⟩
 (conv => whnf); repeat' ((with_reducible refine Box.mk ?_) <;> conv => whnf)
 refine ⟨⟨⟨rfl, rfl⟩, ⟨rfl, rfl⟩, ⟨ok, atC_no rfl hk rfl ⟨rfl, rfl⟩⟩, trivial⟩, ?_⟩
 (conv => whnf); (repeat' ((with_reducible first | refine Box.mk ?_ | refine And.intro (fun _ => ?_) (fun _ => ?_) | fail) <;> conv => whnf))
 ·exact weak_ren_to [(0, true), (1, true)] rfl rfl rfl ⟨rfl, trivial⟩
 ·exfalso; rename_i hb; have hb : ¬ (64 : Int) ≤ ((ces es).length : Int) := hb; omega
theorem set_new (es : Es) (clk : Nat) (hc : CI ⟨false, es, clk⟩) (h : Hd) (hr : rightT h.t = true) (hk : keyH h ∉ keysE es) (hf : es.length < 64) :
  DCall P 42 [.ptr 0 0, .int .u32 (h.dom : Int), tv h.t] (CHp es clk) (.int .i64 0) (CHp (es ++ [(h, clk)]) (clk + 1)) := by
 have hl := rightT_len hr
 have q1 := cRight_ok h.t (by omega)
 have q2 := own_ok h.t (by omega)
 rw [hr] at q1
 have ok := ces_ok hc.nodup hc.stamps
 have hcl := ces_len es
 refine DCall.of_awp tok mixed fn42 (Nat.le_of_ble_eq_true rfl) ?_
 (conv => whnf); (repeat' ((first | (with_reducible first | refine Box.mk ?_ | refine And.intro (fun _ => ?_) (fun _ => ?_) | fail) | ((with_reducible show ACall _ _ _ _ _); refine ACall.of_pure (by assumption) (by rfl) ?_) | fail) <;> conv => whnf))
 all_goals try contradiction
 refine ⟨[(9, [3, 4, 5])], by kernel_rfl, ?_⟩
 (conv => whnf); repeat' ((with_reducible refine Box.mk ?_) <;> conv => whnf)
 refine ⟨ok, atC_no rfl hk rfl ?_⟩
 (conv => whnf); repeat' ((with_reducible refine Box.mk ?_) <;> conv => whnf)
 refine ⟨⟨⟨rfl, rfl⟩, ⟨rfl, rfl⟩, ⟨ok, atC_no rfl hk rfl ⟨rfl, rfl⟩⟩, trivial⟩, ?_⟩
 (conv => whnf); (repeat' ((with_reducible first | refine Box.mk ?_ | refine And.intro (fun _ => ?_) (fun _ => ?_) | fail) <;> conv => whnf))
 ·exfalso; rename_i hb; have hb : (64 : Int) ≤ ((ces es).length : Int) := hb; omega
 refine ⟨[], by kernel_rfl, ?_⟩
 (conv => whnf); (repeat' ((first | (with_reducible refine Box.mk ?_) | ((with_reducible show Exists _); refine ⟨_, ACall.of_pure (by assumption) (by rfl) ⟨rfl, rfl⟩, ?_⟩) | fail) <;> conv => whnf))
 refine ⟨ok, atC_no rfl hk rfl ?_⟩
 (conv => whnf); repeat' ((with_reducible refine Box.mk ?_) <;> conv => whnf)
 refine weak_ren_to [(0, true), (1, true)] rfl rfl ?_ ⟨rfl, trivial⟩
 rw [show CHp (es ++ [(h, clk)]) (clk + 1) = [.box 67 [.own 1], .map pk2 (ces es ++ [(plcs (keyH h), tv h.t, clk)]) (clk + 1)] by unfold CHp ces; rw [List.map_append]; rfl]
 rfl
theorem set_nil (h : Hd) (hr : rightT h.t = true) :
  DCall P 42 [.ptr 0 0, .int .u32 (h.dom : Int), tv h.t] [.box 67 [.nilm]] (.int .i64 0) (CHp [(h, 0)] 1) := by
 have hl := rightT_len hr
 have q1 := cRight_ok h.t (by omega)
 have q2 := own_ok h.t (by omega)
 rw [hr] at q1
 refine DCall.of_awp tok mixed fn42 (Nat.le_of_ble_eq_true rfl) ?_
 (conv => whnf); (repeat' ((first | (with_reducible first | refine Box.mk ?_ | refine And.intro (fun _ => ?_) (fun _ => ?_) | fail) | ((with_reducible show ACall _ _ _ _ _); refine ACall.of_pure (by assumption) (by rfl) ?_) | fail) <;> conv => whnf))
 all_goals try contradiction
 refine ⟨[(9, [3, 4, 5])], by kernel_rfl, ?_⟩
 (conv => whnf); repeat' ((with_reducible refine Box.mk ?_) <;> conv => whnf)
 refine ⟨trivial, ?_⟩
 (conv => whnf); repeat' ((with_reducible refine Box.mk ?_) <;> conv => whnf)
 refine ⟨⟨⟨rfl, rfl⟩, ⟨rfl, rfl⟩, ⟨trivial, ⟨rfl, rfl⟩⟩, trivial⟩, ?_⟩
 (conv => whnf); (repeat' ((with_reducible first | refine Box.mk ?_ | refine And.intro (fun _ => ?_) (fun _ => ?_) | fail) <;> conv => whnf))
 all_goals try (rename_i hb; exact absurd hb (by decide))
 refine ⟨[], by kernel_rfl, ?_⟩
 (conv => whnf); (repeat' ((first | (with_reducible refine Box.mk ?_) | ((with_reducible show Exists _); refine ⟨_, ACall.of_pure (by assumption) (by rfl) ⟨rfl, rfl⟩, ?_⟩) | fail) <;> conv => whnf))
 refine ⟨⟨List.nodup_nil, List.nodup_nil⟩, rfl, fun j e hj => (by simp at hj), fun _ => ?_⟩
 (conv => whnf); repeat' ((with_reducible refine Box.mk ?_) <;> conv => whnf)
 exact weak_ren_to [(0, true), (4, true)] rfl rfl rfl ⟨rfl, trivial⟩
theorem set_ok (c : Cs) (hc : CI c) (h : Hd) (hl : h.t.fields.length ≤ 1000000000) : DCall P 42 [.ptr 0 0, .int .u32 (h.dom : Int), tv h.t] (cH c) (.int .i64 (setErr c h)) (cH (setS c h)) := by
 unfold setS setErr
 cases hr : rightT h.t with
 | false => rw [if_pos rfl, if_neg (by decide)]; exact set_bad c h hl hr
 | true =>
  rw [if_neg (by decide)]
  obtain ⟨nl, es, clk⟩ := c
  by_cases hk : keyH h ∈ keysE es
  ·rw [if_neg (fun hx => hx.1 hk), if_pos rfl]
   have hnl : nl = false := by
    cases nl with
    | false => rfl
    | true => have : es = [] := (hc.nil rfl).1; subst this; cases hk
   subst hnl
   unfold setC
   rw [if_pos hk]
   exact set_old es clk hc h hr hk
  ·by_cases hf : 64 ≤ es.length
   ·rw [if_pos ⟨hk, hf⟩, if_neg (by decide)]
    have hnl : nl = false := by
     cases nl with
     | false => rfl
     | true => have : es = [] := (hc.nil rfl).1; subst this; exact absurd hf (by decide)
    subst hnl
    exact set_full es clk hc h hr hk hf
   ·rw [if_neg (fun hx => hf hx.2), if_pos rfl]
    unfold setC
    rw [if_neg hk]
    cases nl with
    | false => exact set_new es clk hc h hr hk (by omega)
    | true =>
     have h1 : es = [] := (hc.nil rfl).1
     have h2 : clk = 0 := (hc.nil rfl).2
     subst h1
     subst h2
     exact set_nil h hr
theorem erase_filter {es : Es} (hn : (keysE es).Nodup) {i : Nat} {x : Hd × Nat} (hx : es[i]? = some x) : es.eraseIdx i = es.filter fun e => !decide (keyH e.1 = keyH x.1) := by
 induction es generalizing i with
 | nil => simp at hx
 | cons y r ih =>
  have hn' := List.nodup_cons.1 (show (keyH y.1 :: keysE r).Nodup from hn)
  cases i with
  | zero =>
   simp only [List.getElem?_cons_zero, Option.some.injEq] at hx
   subst hx
   rw [List.eraseIdx_cons_zero, List.filter_cons_of_neg (by rw [decide_eq_true rfl]; decide)]
   refine (List.filter_eq_self.2 fun e he => ?_).symm
   rw [Bool.not_eq_true', decide_eq_false_iff_not]
   exact fun hk => hn'.1 (keysE_mem.2 ⟨e, he, hk⟩)
  | succ i =>
   rw [List.getElem?_cons_succ] at hx
   have hne : ¬ keyH y.1 = keyH x.1 := fun hk => hn'.1 (keysE_mem.2 ⟨x, List.mem_of_getElem? hx, hk.symm⟩)
   rw [List.eraseIdx_cons_succ, List.filter_cons_of_pos (by rw [decide_eq_false hne]; rfl), ih hn'.2 hx]
theorem erase_map {α β : Type} (f : α → β) : ∀ (l : List α) (i : Nat), (l.map f).eraseIdx i = (l.eraseIdx i).map f
 | [], _ => rfl
 | x :: r, 0 => rfl
 | x :: r, i + 1 => by rw [List.map_cons, List.eraseIdx_cons_succ, List.eraseIdx_cons_succ, List.map_cons, erase_map f r i]
theorem ces_erase (es : Es) (i : Nat) : (ces es).eraseIdx i = ces (es.eraseIdx i) := erase_map _ es i
def dropErr (es : Es) (k : Pl) : Int := if k ∈ keysE es then 0 else 4
theorem drop_ok (c : Cs) (hc : CI c) (d : Nat) (i : Int) : DCall P 138 [.ptr 0 0, .int .u32 (d : Int), .int .i64 i] (cH c) (.int .i64 (dropErr c.es (d, i))) (cH (dropS c (d, i))) := by
 obtain ⟨nl, es, clk⟩ := c
 cases nl
 ·show DCall P _ _ (CHp es clk) _ (CHp (es.filter fun e => !decide (keyH e.1 = (d, i))) clk)
  have ok := ces_ok hc.nodup hc.stamps
  unfold dropErr
  by_cases hk : (d, i) ∈ keysE es
  ·show DCall P _ _ _ (.int .i64 (if (d, i) ∈ keysE es then 0 else 4)) _
   rw [if_pos hk]
   obtain ⟨e, he, hke⟩ := keysE_mem.1 hk
   obtain ⟨j, hj⟩ := List.getElem?_of_mem he
   have hcs : plcs (keyH e.1) = [.int .u32 (d : Int), .int .i64 i] := by rw [hke]; rfl
   have hfil := erase_filter hc.nodup hj
   rw [hke] at hfil
   rw [← hfil]
   refine DCall.of_awp tok mixed fn138 (Nat.le_of_ble_eq_true rfl) ?_
   (conv => whnf); (repeat' ((with_reducible first | refine Box.mk ?_ | refine And.intro (fun _ => ?_) (fun _ => ?_) | fail) <;> conv => whnf))
   all_goals try contradiction
   refine ⟨[(9, [3, 4, 5])], by kernel_rfl, ?_⟩
   (conv => whnf); repeat' ((with_reducible refine Box.mk ?_) <;> conv => whnf)
   refine ⟨ok, atC_yes rfl hc.nodup hj hcs ?_⟩
   (conv => whnf); repeat' ((with_reducible refine Box.mk ?_) <;> conv => whnf)
   refine ⟨⟨⟨rfl, rfl⟩, ⟨rfl, rfl⟩, ⟨ok, atC_yes rfl hc.nodup hj hcs ⟨rfl, rfl⟩⟩, trivial⟩, ?_⟩
   (conv => whnf); repeat' ((with_reducible refine Box.mk ?_) <;> conv => whnf)
   refine ⟨[], by kernel_rfl, ?_⟩
   (conv => whnf); repeat' ((with_reducible refine Box.mk ?_) <;> conv => whnf)
   refine ⟨ok, atC_yes rfl hc.nodup hj hcs ?_⟩
   (conv => whnf); repeat' ((with_reducible refine Box.mk ?_) <;> conv => whnf)
   refine weak_ren_to [(0, true), (1, true)] rfl rfl ?_ ⟨rfl, trivial⟩
   rw [show CHp (es.eraseIdx j) clk = [.box 67 [.own 1], .map pk2 ((ces es).eraseIdx j) clk] by rw [ces_erase]; rfl]
   rfl
  ·show DCall P _ _ _ (.int .i64 (if (d, i) ∈ keysE es then 0 else 4)) _
   rw [if_neg hk, List.filter_eq_self.2 (fun e he => by
    rw [Bool.not_eq_true', decide_eq_false_iff_not]
    exact fun h => hk (keysE_mem.2 ⟨e, he, h⟩))]
   refine DCall.of_awp tok mixed fn138 (Nat.le_of_ble_eq_true rfl) ?_
   (conv => whnf); (repeat' ((with_reducible first | refine Box.mk ?_ | refine And.intro (fun _ => ?_) (fun _ => ?_) | fail) <;> conv => whnf))
   all_goals try contradiction
   refine ⟨[(9, [3, 4, 5])], by kernel_rfl, ?_⟩
   (conv => whnf); repeat' ((with_reducible refine Box.mk ?_) <;> conv => whnf)
   refine ⟨ok, atC_no rfl hk rfl ?_⟩
   (conv => whnf); repeat' ((with_reducible refine Box.mk ?_) <;> conv => whnf)
   refine ⟨⟨⟨rfl, rfl⟩, ⟨rfl, rfl⟩, ⟨ok, atC_no rfl hk rfl ⟨rfl, rfl⟩⟩, trivial⟩, ?_⟩
   (conv => whnf); repeat' ((with_reducible refine Box.mk ?_) <;> conv => whnf)
   exact weak_ren_to [(0, true), (1, true)] rfl rfl rfl ⟨rfl, trivial⟩
 ·have hes : es = [] := (hc.nil rfl).1
  subst hes
  show DCall P _ _ [.box 67 [.nilm]] (.int .i64 4) [.box 67 [.nilm]]
  refine DCall.of_awp tok mixed fn138 (Nat.le_of_ble_eq_true rfl) ?_
  (conv => whnf); (repeat' ((with_reducible first | refine Box.mk ?_ | refine And.intro (fun _ => ?_) (fun _ => ?_) | fail) <;> conv => whnf))
  all_goals try contradiction
  refine ⟨[(9, [3, 4, 5])], by kernel_rfl, ?_⟩
  (conv => whnf); repeat' ((with_reducible refine Box.mk ?_) <;> conv => whnf)
  refine ⟨trivial, ?_⟩
  (conv => whnf); repeat' ((with_reducible refine Box.mk ?_) <;> conv => whnf)
  refine ⟨⟨⟨rfl, rfl⟩, ⟨rfl, rfl⟩, ⟨trivial, ⟨rfl, rfl⟩⟩, trivial⟩, ?_⟩
  (conv => whnf); repeat' ((with_reducible refine Box.mk ?_) <;> conv => whnf)
  exact weak_ren_to [(0, true)] rfl rfl rfl ⟨rfl, trivial⟩
end Go.Proofs.YtnajpmepcffnaaaGreatDoor
end

section
/- cache: DropAll; the places in order; List. -/
namespace Go.Proofs.YtnajpmepcffnaaaGreatDoor
open Go.Ve

theorem seen_perm {seen : List Nat} {n : Nat} (h1 : seen.Nodup) (h2 : ∀ b ∈ seen, b < n) (h3 : ∀ b, b < n → b ∈ seen) : seen.Perm (List.range n) := by
 rw [List.perm_ext_iff_of_nodup h1 List.nodup_range]
 intro a
 rw [List.mem_range]
 exact ⟨h2 a, h3 a⟩
theorem seen_len {seen : List Nat} {n : Nat} (h1 : seen.Nodup) (h2 : ∀ b ∈ seen, b < n) : seen.length ≤ n := by
 have hp : (seen ++ (List.range n).filter fun b => decide (b ∉ seen)).Perm (List.range n) := by
  refine seen_perm ?_ ?_ ?_
  ·rw [List.nodup_append]
   refine ⟨h1, List.Pairwise.filter _ List.nodup_range, fun a ha b hb e => ?_⟩
   have := of_decide_eq_true (List.mem_filter.1 hb).2
   exact this (e ▸ ha)
  ·intro b hb
   rcases List.mem_append.1 hb with hb | hb
   ·exact h2 b hb
   ·exact List.mem_range.1 (List.mem_filter.1 hb).1
  ·intro b hb
   rw [List.mem_append]
   by_cases h : b ∈ seen
   ·exact .inl h
   ·exact .inr (List.mem_filter.2 ⟨List.mem_range.2 hb, decide_eq_true h⟩)
 have := hp.length_eq
 rw [List.length_append, List.length_range] at this
 omega
theorem seen_more {seen : List Nat} {n b : Nat} (h1 : seen.Nodup) (h2 : ∀ b ∈ seen, b < n) (hb : b < n) (hs : b ∉ seen) : (seen ++ [b]).Nodup ∧ (∀ c ∈ seen ++ [b], c < n) ∧ seen.length < n := by
 have hx : (seen ++ [b]).Nodup := by
  rw [List.nodup_append]
  refine ⟨h1, by simp, fun a ha c hc e => hs ?_⟩
  rw [← List.mem_singleton.1 hc, ← e]; exact ha
 have hy : ∀ c ∈ seen ++ [b], c < n := fun c hc => by
  rcases List.mem_append.1 hc with hc | hc
  ·exact h2 c hc
  ·rw [List.mem_singleton.1 hc]; exact hb
 have := seen_len hx hy
 rw [List.length_append] at this
 exact ⟨hx, hy, by simp at this; omega⟩
def goneE (es : Es) (d : Nat) (opt : Bool) (seen : List Nat) : Es := es.filter fun e => !(decide (e.2 ∈ seen) && ofKind d opt e.1)
theorem gone_nil (es : Es) (d : Nat) (opt : Bool) : goneE es d opt [] = es := List.filter_eq_self.2 fun e _ => by rw [decide_eq_false (by simp)]; rfl
theorem gone_mem {es : Es} {d : Nat} {opt : Bool} {seen : List Nat} {e : Hd × Nat} (h : e ∈ goneE es d opt seen) : e ∈ es := (List.mem_filter.1 h).1
theorem gone_keep {es : Es} {d : Nat} {opt : Bool} {seen : List Nat} {e : Hd × Nat} (hs : (es.map (·.2)).Nodup) (he : e ∈ es) (h : ofKind d opt e.1 = false) : goneE es d opt (seen ++ [e.2]) = goneE es d opt seen := by
 unfold goneE
 refine List.filter_congr fun x hx => ?_
 by_cases hk : ofKind d opt x.1 = true
 ·have hne : x.2 ≠ e.2 := fun hxe => by
   obtain ⟨i, hi⟩ := List.getElem?_of_mem hx
   obtain ⟨j, hj⟩ := List.getElem?_of_mem he
   have := nodup_at hs (x := x.2) (by rw [List.getElem?_map, hi]; rfl) (by rw [List.getElem?_map, hj, hxe]; rfl)
   subst this
   rw [hi] at hj
   rw [Option.some.inj hj, h] at hk; cases hk
  have : (x.2 ∈ seen ++ [e.2]) ↔ x.2 ∈ seen := by
   rw [List.mem_append, List.mem_singleton]
   exact ⟨fun h => h.elim id fun h => absurd h hne, .inl⟩
  simp only [this]
 ·have hk : ofKind d opt x.1 = false := by cases hb : ofKind d opt x.1 with | false => rfl | true => exact absurd hb hk
  rw [hk, Bool.and_false, Bool.and_false]
theorem gone_drop {es : Es} {d : Nat} {opt : Bool} {seen : List Nat} {e : Hd × Nat} (hn : (keysE es).Nodup) (hs : (es.map (·.2)).Nodup) (he : e ∈ es) (h : ofKind d opt e.1 = true) : (goneE es d opt seen).filter (fun x => !decide (keyH x.1 = keyH e.1)) = goneE es d opt (seen ++ [e.2]) := by
 unfold goneE
 rw [List.filter_filter]
 refine List.filter_congr fun x hx => ?_
 by_cases hk : keyH x.1 = keyH e.1
 ·have : x = e := key_one hn hx he hk
  subst this
  rw [decide_eq_true hk, h, decide_eq_true (show x.2 ∈ seen ++ [x.2] by simp)]; rfl
 ·have hne : x.2 ≠ e.2 := fun hxe => by
   obtain ⟨i, hi⟩ := List.getElem?_of_mem hx
   obtain ⟨j, hj⟩ := List.getElem?_of_mem he
   have := nodup_at hs (x := x.2) (by rw [List.getElem?_map, hi]; rfl) (by rw [List.getElem?_map, hj, hxe]; rfl)
   subst this
   rw [hi] at hj
   exact hk (by rw [Option.some.inj hj])
  have : (x.2 ∈ seen ++ [e.2]) ↔ x.2 ∈ seen := by
   rw [List.mem_append, List.mem_singleton]
   exact ⟨fun h => h.elim id fun h => absurd h hne, .inl⟩
  rw [decide_eq_false hk]
  simp only [this, Bool.not_false, Bool.true_and]
theorem gone_all {es : Es} {d : Nat} {opt : Bool} {seen : List Nat} (h : ∀ e ∈ goneE es d opt seen, e.2 ∈ seen) : goneE es d opt seen = es.filter fun e => !ofKind d opt e.1 := by
 unfold goneE
 refine List.filter_congr fun x hx => ?_
 by_cases hk : ofKind d opt x.1 = true
 ·by_cases hs : x.2 ∈ seen
  ·rw [decide_eq_true hs]; rfl
  ·refine absurd (h x (List.mem_filter.2 ⟨hx, ?_⟩)) hs
   rw [decide_eq_false hs]; rfl
 ·have hk : ofKind d opt x.1 = false := by cases hb : ofKind d opt x.1 with | false => rfl | true => exact absurd hb hk
  rw [hk, Bool.and_false]
theorem dropAll_ok (c : Cs) (hc : CI c) (d : Nat) (opt : Bool) : DCall P 137 [.ptr 0 0, .int .u32 (d : Int), .bool opt] (cH c) (.int .i64 ((c.es.length : Int) - ((dropAllS c d opt).es.length : Int))) (cH (dropAllS c d opt)) := by
 obtain ⟨nl, es, clk⟩ := c
 cases nl
 ·show DCall P _ _ (CHp es clk) (.int .i64 ((es.length : Int) - ((es.filter fun e => !ofKind d opt e.1).length : Int))) (CHp (es.filter fun e => !ofKind d opt e.1) clk)
  have hn := hc.nodup
  have hs := hc.stamps
  have hlt := hc.lt
  have hlen : es.length ≤ 64 := hc.len
  have hfl : (es.filter fun e => !ofKind d opt e.1).length ≤ es.length := List.length_filter_le _ _
  refine DCall.of_awp tok mixed fn137 (Nat.le_of_ble_eq_true rfl) ?_
  (conv => whnf); (repeat' ((with_reducible first | refine Box.mk ?_ | refine And.intro (fun _ => ?_) (fun _ => ?_) | fail) <;> conv => whnf))
  all_goals try contradiction
  refine aloop (fun seen : List Nat => seen.Nodup ∧ ∀ b ∈ seen, b < clk) (fun seen => ⟨envL [(0, .ptr 0 0), (1, .int .u32 (d : Int)), (2, .bool opt), (7, .int .i64 ((ces es).length : Int)), (21, .own 2)], CHp (goneE es d opt seen) clk ++ [.iter (some 1) clk seen clk]⟩) (fun seen => clk - seen.length) []
   ⟨List.nodup_nil, fun b hb => by cases hb⟩ (weak_to ⟨rfl, rfl, rfl, rfl, rfl, trivial⟩ (by rw [gone_nil]; rfl)) ?_
  rintro seen ⟨hsn, hb⟩
  (conv => whnf); (repeat' ((with_reducible first | refine Box.mk ?_ | refine And.intro (fun _ => ?_) (fun _ => ?_) | refine (forceH_eq _ _).mpr ?_ | fail) <;> conv => whnf))
  refine ⟨Nat.le_refl _, fun e he => ?_, fun e he hns => ?_, fun hall => ?_⟩
  ·obtain ⟨x, hx, rfl⟩ := ces_mem he
   exact hlt x (gone_mem hx)
  ·obtain ⟨x, hx, rfl⟩ := ces_mem he
   have hxe := gone_mem hx
   obtain ⟨m1, m2, m3⟩ := seen_more hsn hb (hlt x hxe) hns
   have hgn : (keysE (goneE es d opt seen)).Nodup := hn.sublist (List.Sublist.map _ List.filter_sublist)
   have hgs : ((goneE es d opt seen).map (·.2)).Nodup := hs.sublist (List.Sublist.map _ List.filter_sublist)
   obtain ⟨j, hj⟩ := List.getElem?_of_mem hx
   have hfin : clk - (seen ++ [x.2]).length < clk - seen.length := by rw [List.length_append]; simp; omega
   have keep : ofKind d opt x.1 = false → CHp (goneE es d opt (seen ++ [x.2])) clk = CHp (goneE es d opt seen) clk := fun h => by rw [gone_keep hs hxe h]
   have drop : ofKind d opt x.1 = true → CHp (goneE es d opt (seen ++ [x.2])) clk = [.box 67 [.own 1], .map pk2 ((ces (goneE es d opt seen)).eraseIdx j) clk] := fun h => by
    rw [← gone_drop (seen := seen) hn hs hxe h, ces_erase, erase_filter hgn hj]; rfl
   have hk : ofKind d opt x.1 = (decide (x.1.dom = d) && (decide (0 < x.1.t.scope) == opt)) := rfl
   generalize goneE es d opt seen = gs at *
   have ok := ces_ok hgn hgs
   (conv => whnf); repeat' ((with_reducible refine Box.mk ?_) <;> conv => whnf)
   refine ⟨rfl, _, he, by simp, ?_⟩
   by_cases hd : x.1.dom = d
   ·have hd2 : (((keyH x.1).1 : Nat) : Int) = (d : Int) := by rw [show (keyH x.1).1 = x.1.dom from rfl, hd]
    by_cases hsc : 0 < x.1.t.scope
    ·cases opt
     ·(conv => whnf); (repeat' ((with_reducible first | refine Box.mk ?_ | refine And.intro (fun _ => ?_) (fun _ => ?_) | fail) <;> conv => whnf))
      all_goals try (exfalso; first | omega | (rename_i h; exact absurd h (by decide)) | (rename_i h; exact h rfl))
      exact ⟨seen ++ [x.2], ⟨m1, m2⟩, hfin, weak_ren_to [(0, true), (1, true), (2, true)] rfl rfl (by rw [keep (by rw [hk]; rw [decide_eq_true hd, decide_eq_true hsc]; rfl)]; rfl) ⟨rfl, rfl, rfl, rfl, rfl, trivial⟩⟩
     ·(conv => whnf); (repeat' ((with_reducible first | refine Box.mk ?_ | refine And.intro (fun _ => ?_) (fun _ => ?_) | fail) <;> conv => whnf))
      all_goals try (exfalso; first | omega | (rename_i h; exact absurd h (by decide)) | (rename_i h; exact h rfl))
      refine ⟨[], by kernel_rfl, ?_⟩
      (conv => whnf); repeat' ((with_reducible refine Box.mk ?_) <;> conv => whnf)
      refine ⟨ok, atC_yes rfl hgn hj (by exact rfl) ?_⟩
      (conv => whnf); repeat' ((with_reducible refine Box.mk ?_) <;> conv => whnf)
      exact ⟨seen ++ [x.2], ⟨m1, m2⟩, hfin, weak_ren_to [(0, true), (1, true), (2, true)] rfl rfl (by rw [drop (by rw [hk]; rw [decide_eq_true hd, decide_eq_true hsc]; rfl)]; rfl) ⟨rfl, rfl, rfl, rfl, rfl, trivial⟩⟩
    ·cases opt
     ·(conv => whnf); (repeat' ((with_reducible first | refine Box.mk ?_ | refine And.intro (fun _ => ?_) (fun _ => ?_) | fail) <;> conv => whnf))
      all_goals try (exfalso; first | omega | (rename_i h; exact absurd h (by decide)) | (rename_i h; exact h rfl))
      refine ⟨[], by kernel_rfl, ?_⟩
      (conv => whnf); repeat' ((with_reducible refine Box.mk ?_) <;> conv => whnf)
      refine ⟨ok, atC_yes rfl hgn hj (by exact rfl) ?_⟩
      (conv => whnf); repeat' ((with_reducible refine Box.mk ?_) <;> conv => whnf)
      exact ⟨seen ++ [x.2], ⟨m1, m2⟩, hfin, weak_ren_to [(0, true), (1, true), (2, true)] rfl rfl (by rw [drop (by rw [hk]; rw [decide_eq_true hd, decide_eq_false hsc]; rfl)]; rfl) ⟨rfl, rfl, rfl, rfl, rfl, trivial⟩⟩
     ·(conv => whnf); (repeat' ((with_reducible first | refine Box.mk ?_ | refine And.intro (fun _ => ?_) (fun _ => ?_) | fail) <;> conv => whnf))
      all_goals try (exfalso; first | omega | (rename_i h; exact absurd h (by decide)) | (rename_i h; exact h rfl))
      exact ⟨seen ++ [x.2], ⟨m1, m2⟩, hfin, weak_ren_to [(0, true), (1, true), (2, true)] rfl rfl (by rw [keep (by rw [hk]; rw [decide_eq_true hd, decide_eq_false hsc]; rfl)]; rfl) ⟨rfl, rfl, rfl, rfl, rfl, trivial⟩⟩
   ·have hd2 : ¬ (((keyH x.1).1 : Nat) : Int) = (d : Int) := by rw [show (keyH x.1).1 = x.1.dom from rfl]; omega
    (conv => whnf); (repeat' ((with_reducible first | refine Box.mk ?_ | refine And.intro (fun _ => ?_) (fun _ => ?_) | fail) <;> conv => whnf))
    all_goals try (exfalso; first | omega | (rename_i h; exact absurd h (by decide)) | (rename_i h; exact h rfl))
    exact ⟨seen ++ [x.2], ⟨m1, m2⟩, hfin, weak_ren_to [(0, true), (1, true), (2, true)] rfl rfl (by rw [keep (by rw [hk]; rw [decide_eq_false hd]; rfl)]; rfl) ⟨rfl, rfl, rfl, rfl, rfl, trivial⟩⟩
  ·have hall2 : ∀ e ∈ goneE es d opt seen, e.2 ∈ seen := fun e he => hall _ (List.mem_map.2 ⟨e, he, rfl⟩)
   rw [gone_all hall2]
   have hcl := ces_len es
   have hcl2 := ces_len (es.filter fun e => !ofKind d opt e.1)
   (conv => whnf); repeat' ((with_reducible refine Box.mk ?_) <;> conv => whnf)
   all_goals try contradiction
   refine weak_ren_to [(0, true), (1, true)] rfl rfl rfl ⟨congrArg (AV.int .i64) ?_, trivial⟩
   show IntKind.i64.wrap (((ces es).length : Int) - ((ces (es.filter fun e => !ofKind d opt e.1)).length : Int)) = _
   rw [hcl, hcl2, wrap_i64 (by omega) (by omega)]
 ·have hes : es = [] := (hc.nil rfl).1
  subst hes
  show DCall P _ _ [.box 67 [.nilm]] (.int .i64 0) [.box 67 [.nilm]]
  refine DCall.of_awp tok mixed fn137 (Nat.le_of_ble_eq_true rfl) ?_
  (conv => whnf); (repeat' ((with_reducible first | refine Box.mk ?_ | refine And.intro (fun _ => ?_) (fun _ => ?_) | fail) <;> conv => whnf))
  all_goals try contradiction
  refine aloop (fun _ : Unit => True) (fun _ => ⟨envL [(0, .ptr 0 0), (7, .int .i64 0), (21, .own 1)], [.box 67 [.nilm], .iter none 0 [] 0]⟩) (fun _ => 0) () trivial (weak_to ⟨rfl, rfl, rfl, trivial⟩ rfl) ?_
  rintro _ _
  (conv => whnf); repeat' ((with_reducible refine Box.mk ?_) <;> conv => whnf)
  all_goals try contradiction
  exact weak_ren_to [(0, true)] rfl rfl rfl ⟨rfl, trivial⟩
end Go.Proofs.YtnajpmepcffnaaaGreatDoor
end

section
/- cache: the places in order; List. -/
namespace Go.Proofs.YtnajpmepcffnaaaGreatDoor
open Go.Ve

theorem nanW_ok [Dr] (a : Int) : PCall P 96 [.int .u32 a] (.bool false) := by
 refine PCall.of_awp tok mixed fn96 (Nat.le_of_ble_eq_true rfl) ?_
 (conv => whnf); (repeat' ((with_reducible first | refine Box.mk ?_ | refine And.intro (fun _ => ?_) (fun _ => ?_) | fail) <;> conv => whnf))
 all_goals first
  | rfl
  | (rename_i h; exact absurd rfl h)
theorem cmpW_ok [Dr] (a b : Int) : PCall P 70 [.int .u32 a, .int .u32 b] (.int .i64 (cmpI a b)) := by
 have q1 := nanW_ok a
 have q2 := nanW_ok b
 refine PCall.of_awp tok mixed fn70 (Nat.le_of_ble_eq_true rfl) ?_
 (conv => whnf); (repeat' ((first | (with_reducible first | refine Box.mk ?_ | refine And.intro (fun _ => ?_) (fun _ => ?_) | fail) | ((with_reducible show ACall _ _ _ _ _); refine ACall.of_pure (by assumption) (by rfl) ?_) | fail) <;> conv => whnf))
 all_goals (refine res1_eq (congrArg (AV.int .i64) ?_); unfold cmpI)
 ·rename_i h; rw [if_pos h]
 ·rename_i h1 h2; rw [if_neg h1, if_pos h2]
 ·rename_i h1 h2; rw [if_neg h1, if_neg h2]
theorem pl_eq (p q : Pl) : cmpPl p q = orI [cmpI (p.1 : Int) (q.1 : Int), cmpI p.2 q.2] := by
 unfold cmpPl orI orI orI
 by_cases h : cmpI (p.1 : Int) (q.1 : Int) = 0
 ·rw [if_pos h, if_pos h]
  by_cases h2 : cmpI p.2 q.2 = 0
  ·rw [if_pos h2, h2]
  ·rw [if_neg h2]
 ·rw [if_neg h, if_neg h]
theorem ahead_ok [Dr] (p q : Pl) : PCall P 36 [plv p, plv q] (.int .i64 (cmpPl p q)) := by
 have q1 := cmpW_ok (p.1 : Int) (q.1 : Int)
 have q2 := cmpI_ok p.2 q.2
 have q3 := cmpOr_ok [cmpI (p.1 : Int) (q.1 : Int), cmpI p.2 q.2] (by simp)
 rw [pl_eq]
 generalize cmpI (p.1 : Int) (q.1 : Int) = y at *
 generalize cmpI p.2 q.2 = z at *
 refine PCall.of_awp tok mixed fn36 (Nat.le_of_ble_eq_true rfl) ?_
 (conv => whnf); (repeat' ((first | (with_reducible refine Box.mk ?_) | ((with_reducible show Exists _); refine ⟨_, ACall.of_pure (by assumption) (by rfl) ⟨rfl, rfl⟩, ?_⟩) | ((with_reducible show ∃ L, drawR L _ = true ∧ _); refine ⟨[], by kernel_rfl, ?_⟩) | fail) <;> conv => whnf))
 refine ⟨_, ACall.of_view q3 rfl rfl ⟨rfl, rfl⟩, ?_⟩
 (conv => whnf); repeat' ((with_reducible refine Box.mk ?_) <;> conv => whnf)
 rfl

def keyO (es : Es) (b : Nat) : Pl := match es.find? (fun e => decide (e.2 = b)) with
 | some e => keyH e.1
 | none => (0, 0)
def prC (es : Es) (seen : List Nat) : List Pl := seen.map (keyO es)
theorem sub_len : ∀ {l r : List Nat}, l.Nodup → (∀ b ∈ l, b ∈ r) → l.length ≤ r.length
 | [], _, _, _ => Nat.zero_le _
 | x :: l, r, hn, h => by
  have hn' := List.nodup_cons.1 hn
  have hx := h x List.mem_cons_self
  have h2 := sub_len (r := r.erase x) hn'.2 fun b hb => by
   have hbr := h b (List.mem_cons_of_mem _ hb)
   exact (List.mem_erase_of_ne (fun e : b = x => hn'.1 (by rw [← e]; exact hb))).2 hbr
  rw [List.length_erase_of_mem hx] at h2
  have := List.length_pos_of_mem hx
  rw [List.length_cons]; omega
theorem keyO_at {es : Es} (hs : (es.map (·.2)).Nodup) {e : Hd × Nat} (he : e ∈ es) : keyO es e.2 = keyH e.1 := by
 unfold keyO
 cases hf : es.find? (fun x => decide (x.2 = e.2)) with
 | none => rw [List.find?_eq_none] at hf; exact absurd (decide_eq_true rfl) (hf e he)
 | some x =>
  have h1 := List.mem_of_find?_eq_some hf
  have h2 : x.2 = e.2 := of_decide_eq_true (List.find?_some (p := fun x : Hd × Nat => decide (x.2 = e.2)) hf)
  obtain ⟨i, hi⟩ := List.getElem?_of_mem h1
  obtain ⟨j, hj⟩ := List.getElem?_of_mem he
  have := nodup_at hs (x := e.2) (by rw [List.getElem?_map, hi, Option.map_some, h2]) (by rw [List.getElem?_map, hj]; rfl)
  subst this
  rw [hi] at hj
  show keyH x.1 = _
  rw [Option.some.inj hj]
theorem prC_all {es : Es} (hs : (es.map (·.2)).Nodup) {seen : List Nat} (h : seen.Perm (es.map (·.2))) : (prC es seen).Perm (keysE es) := by
 have e : (es.map (·.2)).map (keyO es) = keysE es := by
  unfold keysE
  rw [List.map_map]
  exact List.map_congr_left fun x hx => keyO_at hs hx
 rw [← e]
 exact h.map _
theorem srtC_of_perm {c : Pl → Pl → Int} (hT : TO c) (h0 : ∀ x y, c x y = 0 → x = y) {l r : List Pl} (hn : r.Nodup) (h : l.Perm r) : srtC c l = srtC c r :=
 (srtC_ord hT h0 (h.nodup_iff.2 hn)).ext hT (srtC_ord hT h0 hn) fun x => by rw [srtC_mem, srtC_mem, h.mem_iff]
def KHp (es : Es) (clk : Nat) : Hp := [.map pk2 (ces es) clk, .box 65 [.own 0]]
theorem keysP_fn (es : Es) (clk : Nat) : DCall P 35 [.own 0] [.map pk2 (ces es) clk] (.fn 68 [.ptr 1 0]) (KHp es clk) := by
 refine DCall.of_awp tok mixed fn35 (Nat.le_of_ble_eq_true rfl) ?_
 (conv => whnf); repeat' ((with_reducible refine Box.mk ?_) <;> conv => whnf)
 exact weak_to ⟨rfl, trivial⟩ rfl
theorem keysP_nil : DCall P 35 [.nilm] [] (.fn 68 [.ptr 0 0]) [.box 65 [.nilm]] := by
 refine DCall.of_awp tok mixed fn35 (Nat.le_of_ble_eq_true rfl) ?_
 (conv => whnf); repeat' ((with_reducible refine Box.mk ?_) <;> conv => whnf)
 exact weak_to ⟨rfl, trivial⟩ rfl
theorem seqP_ok (es : Es) (clk : Nat) (hs : (es.map (·.2)).Nodup) (hlt : ∀ e ∈ es, e.2 < clk) (hl : es.length ≤ 64) : ACall P 93 [.nils, .fn 68 [.ptr 1 0]] (KHp es clk) fun r H' =>
  ∃ k : List Pl, k.Perm (keysE es) ∧ r = .own 2 ∧ H' = KHp es clk ++ [.row 98 2 (plcl k)] := by
 refine ACall.of_awpW tok mixed fn93 (Nat.le_of_ble_eq_true rfl) ?_
 (conv => whnf); repeat' ((with_reducible refine Box.mk ?_) <;> conv => whnf)
 refine arange [(2, .ptr 2 0)] ⟨rfl, trivial⟩ rfl trivial ?_
 refine ACall.of_awp tok mixed fn68 (Nat.le_of_ble_eq_true rfl) ?_
 (conv => whnf); repeat' ((with_reducible refine Box.mk ?_) <;> conv => whnf)
 refine aloopH (fun seen : List Nat => seen.Nodup ∧ ∀ b ∈ seen, b ∈ es.map (·.2)) (fun _ => [(0, .own 3), (5, .own 4)])
  (fun seen H => (H.set 2 (.box 95 [.own 5])).set 4 (.iter (some 0) clk seen clk) ++ [.row 98 2 (plcl (prC es seen))]) (fun seen => clk - seen.length) [] ⟨List.nodup_nil, fun b hb => by cases hb⟩
  (by exact weak_nilrow _ _ (by decide) ⟨.inl rfl, .inl rfl, trivial⟩ ⟨.inl rfl, .inl rfl, .inr ⟨rfl, .inr ⟨rfl, rfl⟩, trivial⟩, .inl rfl, .inl rfl, trivial⟩) ?_
 rintro seen ⟨hn2, hb⟩
 have hb2 : ∀ b ∈ seen, b < clk := fun b h => by
  obtain ⟨e, he, rfl⟩ := List.mem_map.1 (hb b h)
  exact hlt e he
 have hsl : seen.length ≤ 64 := by
  have h1 : seen.length ≤ (es.map (·.2)).length := sub_len hn2 hb
  rw [List.length_map] at h1; omega
 (conv => whnf); (repeat' ((with_reducible first | refine Box.mk ?_ | refine And.intro (fun _ => ?_) (fun _ => ?_) | refine (forceH_eq _ _).mpr ?_ | fail) <;> conv => whnf))
 refine ⟨Nat.le_refl _, fun e he => ?_, fun e he hns => ?_, fun hall => ?_⟩
 ·obtain ⟨x, hx, rfl⟩ := ces_mem he
  exact hlt x hx
 ·obtain ⟨x, hx, rfl⟩ := ces_mem he
  obtain ⟨m1, m2, m3⟩ := seen_more hn2 hb2 (hlt x hx) hns
  have hps : prC es (seen ++ [x.2]) = prC es seen ++ [keyH x.1] := by
   unfold prC; rw [List.map_append, List.map_cons, List.map_nil, keyO_at hs hx]
  have hpl : (plcl (prC es seen)).length = seen.length := by rw [plcl_len]; simp [prC]
  (conv => whnf); repeat' ((with_reducible refine Box.mk ?_) <;> conv => whnf)
  refine ⟨rfl, _, he, by simp, ?_⟩
  (conv => whnf); (repeat' ((first | (with_reducible refine Box.mk ?_) | ((with_reducible show AYld _ _ _ _ _); refine AYld.of tok mixed ?_) | fail) <;> conv => whnf))
  refine ⟨fun c hc => by rw [List.mem_singleton.1 hc]; exact ⟨rfl, rfl⟩, by rw [hpl]; show (_ + 1) * 16 ≤ _; omega, by rw [hpl]; show _ + 1 ≤ _; omega, ?_⟩
  (conv => whnf); repeat' ((with_reducible refine Box.mk ?_) <;> conv => whnf)
  refine ⟨seen ++ [x.2], ⟨m1, fun b hbm => ?_⟩, by simp; omega, weak_ren_to [(0, true), (1, true), (2, true), (3, true), (4, true), (9, true)] rfl rfl ?_ ⟨rfl, rfl, trivial⟩⟩
  ·rcases List.mem_append.1 hbm with hbm | hbm
   ·exact hb b hbm
   ·rw [List.mem_singleton.1 hbm]; exact List.mem_map.2 ⟨x, hx, rfl⟩
  ·rw [hps, ← plcl_snoc]
   rfl
 ·have hp2 : seen.Perm (es.map (·.2)) := by
   rw [List.perm_ext_iff_of_nodup hn2 hs]
   intro b
   refine ⟨hb b, fun hm => ?_⟩
   obtain ⟨e, he, rfl⟩ := List.mem_map.1 hm
   exact hall _ (List.mem_map.2 ⟨e, he, rfl⟩)
  (conv => whnf); repeat' ((with_reducible refine Box.mk ?_) <;> conv => whnf)
  exact ⟨.own 2, _, weak_ren_to [(0, true), (1, true), (5, true)] rfl rfl rfl ⟨rfl, trivial⟩, prC es seen, prC_all hs hp2, rfl, rfl⟩
theorem seqP_nil : ACall P 93 [.nils, .fn 68 [.ptr 0 0]] [.box 65 [.nilm]] fun r H' =>
  r = .own 1 ∧ H' = [.box 65 [.nilm], .row 98 2 []] := by
 refine ACall.of_awpW tok mixed fn93 (Nat.le_of_ble_eq_true rfl) ?_
 (conv => whnf); repeat' ((with_reducible refine Box.mk ?_) <;> conv => whnf)
 refine arange [(2, .ptr 1 0)] ⟨rfl, trivial⟩ rfl trivial ?_
 refine ACall.of_awp tok mixed fn68 (Nat.le_of_ble_eq_true rfl) ?_
 (conv => whnf); repeat' ((with_reducible refine Box.mk ?_) <;> conv => whnf)
 refine aloopH (fun _ : Unit => True) (fun _ => [(0, .own 2), (5, .own 3)]) (fun _ H => H.set 1 (.box 95 [.own 4]) ++ [.row 98 2 []]) (fun _ => 0) () trivial
  (by exact weak_nilrow _ _ (by decide) ⟨.inl rfl, .inl rfl, trivial⟩ ⟨.inl rfl, .inr ⟨rfl, .inr ⟨rfl, rfl⟩, trivial⟩, .inl rfl, .inl rfl, trivial⟩) ?_
 rintro _ _
 (conv => whnf); repeat' ((with_reducible refine Box.mk ?_) <;> conv => whnf)
 exact ⟨.own 1, _, weak_ren_to [(0, true), (4, true)] rfl rfl rfl ⟨rfl, trivial⟩, rfl, rfl⟩
def plsE (es : Es) : List Pl := srtC cmpPl (keysE es)
theorem sortedP_ok (es : Es) (clk : Nat) (hn : (keysE es).Nodup) (hs : (es.map (·.2)).Nodup) (hlt : ∀ e ∈ es, e.2 < clk) (hl : es.length ≤ 64) :
  DCall P 34 [.fn 68 [.ptr 1 0], .fn 36 []] (KHp es clk) (.sl (plcl (plsE es))) (KHp es clk) := by
 have hseq := seqP_ok es clk hs hlt hl
 have hcol : ACall P 66 [.fn 68 [.ptr 1 0]] (KHp es clk) fun r H' => ∃ k : List Pl, k.Perm (keysE es) ∧ r = .own 2 ∧ H' = KHp es clk ++ [.row 98 2 (plcl k)] := by
  refine ACall.of_awp tok mixed fn66 (Nat.le_of_ble_eq_true rfl) ?_
  (conv => whnf); repeat' ((with_reducible refine Box.mk ?_) <;> conv => whnf)
  refine hseq.mono ?_
  rintro r H' ⟨k, hk, rfl, rfl⟩
  (conv => whnf); repeat' ((with_reducible refine Box.mk ?_) <;> conv => whnf)
  exact ⟨k, hk, rfl, rfl⟩
 refine DCall.of_awp tok mixed fn34 (Nat.le_of_ble_eq_true rfl) ?_
 (conv => whnf); repeat' ((with_reducible refine Box.mk ?_) <;> conv => whnf)
 refine hcol.mono ?_
 rintro r H' ⟨k, hk, rfl, rfl⟩
 have e := srtC_of_perm to_cmpPl (fun _ _ => cmpPl_zero) hn hk
 have hkl : k.length = es.length := by rw [hk.length_eq, keysE, List.length_map]
 unfold plsE
 rw [← e]
 (conv => whnf); repeat' ((with_reducible refine Box.mk ?_) <;> conv => whnf)
 refine aW [2] (sortF_ok (c := cmpPl) (fun x y => @ahead_ok told x y) to_cmpPl (fun _ _ => cmpPl_zero) k (by omega)) rfl rfl rfl ?_
 (conv => whnf); repeat' ((with_reducible refine Box.mk ?_) <;> conv => whnf)
 exact weak_cr 2 [(0, true), (1, true)] rfl rfl rfl rfl rfl
theorem sortedP_nil : DCall P 34 [.fn 68 [.ptr 0 0], .fn 36 []] [.box 65 [.nilm]] (.sl []) [.box 65 [.nilm]] := by
 have hseq := seqP_nil
 have hcol : ACall P 66 [.fn 68 [.ptr 0 0]] [.box 65 [.nilm]] fun r H' => r = .own 1 ∧ H' = [.box 65 [.nilm], .row 98 2 []] := by
  refine ACall.of_awp tok mixed fn66 (Nat.le_of_ble_eq_true rfl) ?_
  (conv => whnf); repeat' ((with_reducible refine Box.mk ?_) <;> conv => whnf)
  refine hseq.mono ?_
  rintro r H' ⟨rfl, rfl⟩
  (conv => whnf); repeat' ((with_reducible refine Box.mk ?_) <;> conv => whnf)
  exact ⟨rfl, rfl⟩
 refine DCall.of_awp tok mixed fn34 (Nat.le_of_ble_eq_true rfl) ?_
 (conv => whnf); repeat' ((with_reducible refine Box.mk ?_) <;> conv => whnf)
 refine hcol.mono ?_
 rintro r H' ⟨rfl, rfl⟩
 (conv => whnf); repeat' ((with_reducible refine Box.mk ?_) <;> conv => whnf)
 refine aW [1] (sortF_nil 36) rfl rfl rfl ?_
 (conv => whnf); repeat' ((with_reducible refine Box.mk ?_) <;> conv => whnf)
 exact weak_cr 1 [(0, true)] rfl rfl rfl rfl rfl
end Go.Proofs.YtnajpmepcffnaaaGreatDoor
end

section
/- cache: List, Clone. -/
namespace Go.Proofs.YtnajpmepcffnaaaGreatDoor
open Go.Ve

def hdc (h : Hd) : List AV := [.int .u32 (h.dom : Int), .int .i64 h.t.id, .int .i64 h.t.scope, .sl (scl h.t.fields)]
def hdl (l : List Hd) : List (List AV) := l.map hdc
theorem hdl_len (l : List Hd) : (hdl l).length = l.length := by simp [hdl]
theorem hdl_get (l : List Hd) (i : Nat) : (hdl l)[i]? = (l[i]?).map hdc := by simp [hdl]
theorem hdl_snoc (l : List Hd) (x : Hd) : hdl l ++ [hdc x] = hdl (l ++ [x]) := by simp [hdl]
theorem hdl_cells (l : List Hd) : allCells 4 (hdl l) := fun c hc => by
 obtain ⟨x, _, rfl⟩ := List.mem_map.1 hc; exact ⟨rfl, rfl⟩
theorem pls_list {es : Es} (hn : (keysE es).Nodup) : plsE es = (listE es).map keyH := by
 have hr := listE_rel hn
 refine OrdC.ext to_cmpPl (srtC_ord to_cmpPl (fun _ _ => cmpPl_zero) hn) ?_ fun x => ?_
 ·unfold OrdC
  rw [List.pairwise_map]
  exact hr.1
 ·unfold plsE
  rw [srtC_mem, keysE_mem, List.mem_map]
  constructor
  ·rintro ⟨e, he, rfl⟩; exact ⟨e.1, (hr.2 _).2 ⟨e, he, rfl⟩, rfl⟩
  ·rintro ⟨h, hh, rfl⟩
   obtain ⟨e, he, rfl⟩ := (hr.2 h).1 hh
   exact ⟨e, he, rfl⟩
theorem list_ok (c : Cs) (hc : CI c) : DCall P 15 [.ptr 0 0] (cH c) (.sl (hdl (listE c.es))) (cH c) := by
 obtain ⟨nl, es, clk⟩ := c
 cases nl
 ·show DCall P _ _ (CHp es clk) (.sl (hdl (listE es))) (CHp es clk)
  have q1 := keysP_fn es clk
  have q2 := sortedP_ok es clk hc.nodup hc.stamps hc.lt hc.len
  have hr := listE_rel hc.nodup
  have hGl : (listE es).length ≤ 64 := by rw [listE_len]; exact hc.len
  have ok := ces_ok hc.nodup hc.stamps
  have hn : (keysE es).Nodup := hc.nodup
  have hrt : ∀ e ∈ es, rightT e.1.t = true := hc.right
  rw [pls_list hc.nodup] at q2
  generalize listE es = G at *
  have hkl : (plcl (G.map keyH)).length = G.length := by rw [plcl_len, List.length_map]
  refine DCall.of_awp tok mixed fn15 (Nat.le_of_ble_eq_true rfl) ?_
  (conv => whnf); (repeat' ((with_reducible first | refine Box.mk ?_ | refine And.intro (fun _ => ?_) (fun _ => ?_) | fail) <;> conv => whnf))
  all_goals try contradiction
  refine aW [1] q1 rfl rfl rfl ?_
  (conv => whnf); repeat' ((with_reducible refine Box.mk ?_) <;> conv => whnf)
  refine aW [1, 2] q2 rfl rfl rfl ?_
  (conv => whnf); repeat' ((with_reducible refine Box.mk ?_) <;> conv => whnf)
  refine aloop (fun i : Nat => i ≤ G.length) (fun i => ⟨envL [(0, .ptr 0 0), (3, .own 2), (13, .sl (plcl (G.map keyH))), (14, .int .i64 ((plcl (G.map keyH)).length : Int)), (15, .int .i64 (i : Int))], CHp es clk ++ [Ob.row 62 4 (hdl (G.take i))]⟩) (fun i => G.length - i) 0 (Nat.zero_le _) ?_ ?_
  ·exact weak_nl [(0, true), (1, true)] (l1 := [(0, .ptr 0 0), (3, .nils), (13, .sl (plcl (G.map keyH))), (14, .int .i64 ((plcl (G.map keyH)).length : Int)), (15, .int .i64 0)]) (H1 := CHp es clk) 62 4 (by decide) rfl rfl rfl ⟨rfl, rfl, rfl, rfl, rfl, trivial⟩ ⟨.inl rfl, .inr ⟨rfl, rfl⟩, .inl rfl, .inl rfl, .inl rfl, trivial⟩ ⟨.inl rfl, .inl rfl, trivial⟩
  intro i hi
  have htl : (hdl (G.take i)).length = i := by rw [hdl_len, List.length_take]; omega
  by_cases hlt : i < G.length
  ·have hx := List.getElem?_eq_getElem hlt
   have hst : hdl (G.take (i + 1)) = hdl (G.take i) ++ [hdc G[i]] := by rw [List.take_add_one, hx, hdl_snoc]; rfl
   have hg : (plcl (G.map keyH))[i]? = some (plcs (keyH G[i])) := by rw [plcl_get, List.getElem?_map, hx]; rfl
   obtain ⟨e, he, hee⟩ := (hr.2 G[i]).1 (List.mem_of_getElem? hx)
   obtain ⟨j, hj⟩ := List.getElem?_of_mem he
   have hfl := rightT_len (hrt e he)
   generalize G[i] = h at *
   subst hee
   have q3 := own_ok e.1.t (by omega)
   (conv => whnf); (repeat' ((with_reducible first | refine Box.mk ?_ | refine And.intro (fun _ => ?_) (fun _ => ?_) | fail) <;> conv => whnf))
   rotate_left
   ·exfalso; rename_i h; have h : ¬ (i : Int) < ((plcl (G.map keyH)).length : Int) := h; omega
   refine ⟨by omega, _, by rw [Int.toNat_natCast]; exact hg, rfl, ?_⟩
   (conv => whnf); repeat' ((with_reducible refine Box.mk ?_) <;> conv => whnf)
   refine ⟨[], by kernel_rfl, ?_⟩
   (conv => whnf); repeat' ((with_reducible refine Box.mk ?_) <;> conv => whnf)
   refine ⟨ok, atC_yes rfl hn hj rfl ?_⟩
   (conv => whnf); (repeat' ((first | (with_reducible refine Box.mk ?_) | ((with_reducible show Exists _); refine ⟨_, ACall.of_pure (by assumption) (by rfl) ⟨rfl, rfl⟩, ?_⟩) | fail) <;> conv => whnf))
   refine ⟨fun c hc => by rw [List.mem_singleton.1 hc]; exact ⟨rfl, rfl⟩, by rw [htl]; show (_ + 1) * 48 ≤ _; omega, by rw [htl]; show _ + 1 ≤ _; omega, ?_⟩
   (conv => whnf); repeat' ((with_reducible refine Box.mk ?_) <;> conv => whnf)
   refine ⟨i + 1, hlt, by omega, weak_ren_to [(0, true), (1, true), (5, true)] rfl rfl ?_ ⟨rfl, rfl, rfl, rfl, wrap_nat (m := 1) (by omega), trivial⟩⟩
   rw [hst]; rfl
  ·have : i = G.length := by omega
   subst this
   (conv => whnf); (repeat' ((with_reducible first | refine Box.mk ?_ | refine And.intro (fun _ => ?_) (fun _ => ?_) | fail) <;> conv => whnf))
   ·exfalso; rename_i h; have h : (G.length : Int) < ((plcl (G.map keyH)).length : Int) := h; omega
   rw [List.take_length]
   exact weak_cr 2 [(0, true), (1, true)] rfl rfl rfl rfl rfl
 ·have hes : es = [] := (hc.nil rfl).1
  subst hes
  show DCall P _ _ [.box 67 [.nilm]] (.sl (hdl (listE []))) [.box 67 [.nilm]]
  have hl0 : listE [] = [] := List.length_eq_zero_iff.1 (by rw [listE_len]; rfl)
  rw [hl0]
  have q1 := keysP_nil
  have q2 := sortedP_nil
  refine DCall.of_awp tok mixed fn15 (Nat.le_of_ble_eq_true rfl) ?_
  (conv => whnf); (repeat' ((with_reducible first | refine Box.mk ?_ | refine And.intro (fun _ => ?_) (fun _ => ?_) | fail) <;> conv => whnf))
  all_goals try contradiction
  refine aW [] q1 rfl rfl rfl ?_
  (conv => whnf); repeat' ((with_reducible refine Box.mk ?_) <;> conv => whnf)
  refine aW [1] q2 rfl rfl rfl ?_
  (conv => whnf); repeat' ((with_reducible refine Box.mk ?_) <;> conv => whnf)
  refine aloop (fun _ : Unit => True) (fun _ => ⟨envL [(3, .sl []), (14, .int .i64 0), (15, .int .i64 0)], [.box 67 [.nilm]]⟩) (fun _ => 0) () trivial ?_ ?_
  ·exact (weak_ren_to (l := [(3, .nils), (14, .int .i64 0), (15, .int .i64 0)]) (H' := [.box 67 [.nilm]]) [(0, true)] rfl rfl rfl ⟨rfl, rfl, rfl, trivial⟩).trans (weak_nils rfl ⟨rfl, rfl, rfl, trivial⟩)
  rintro _ _
  (conv => whnf); (repeat' ((with_reducible first | refine Box.mk ?_ | refine And.intro (fun _ => ?_) (fun _ => ?_) | fail) <;> conv => whnf))
  ·rename_i h; exact absurd h (by decide)
  exact weak_ren_to [(0, true)] rfl rfl rfl ⟨rfl, trivial⟩
def cHat (k : Nat) (c : Cs) : Hp := bif c.nl then [.box 67 [.nilm]] else [.box 67 [.own (k + 1)], .map pk2 (ces c.es) c.clk]
def upTo (G : List Hd) (i : Nat) : Cs := ⟨decide (i = 0), stampE 0 (G.take i), i⟩
theorem clone_step {G : List Hd} (ho : OrdC cmpHd G) (hr : ∀ g ∈ G, rightT g.t = true) (hl : G.length ≤ 64) {i : Nat} {h : Hd} (hx : G[i]? = some h) : setErr (upTo G i) h = 0 ∧ setS (upTo G i) h = upTo G (i + 1) := by
 have hi := (List.getElem?_eq_some_iff.1 hx).1
 have hrt := hr h (List.mem_of_getElem? hx)
 have hkn : keyH h ∉ keysE (upTo G i).es := fun hk => by
  obtain ⟨e, he, hke⟩ := keysE_mem.1 hk
  have hm : e.1 ∈ G.take i := by rw [← stampE_map (G.take i) 0]; exact List.mem_map.2 ⟨e, he, rfl⟩
  obtain ⟨j, hj⟩ := List.getElem?_of_mem hm
  have hj2 := (List.getElem?_eq_some_iff.1 hj).1
  rw [List.length_take] at hj2
  rw [List.getElem?_take_of_lt (by omega)] at hj
  have e1 : (G.map keyH)[i]? = some (keyH h) := by rw [List.getElem?_map, hx]; rfl
  have e2 : (G.map keyH)[j]? = some (keyH h) := by rw [List.getElem?_map, hj, Option.map_some, hke]
  have := nodup_at (ord_keys ho) e1 e2
  omega
 have hlen : (upTo G i).es.length = i := by
  show (stampE 0 (G.take i)).length = i
  rw [stampE_len, List.length_take]; omega
 have h0 : setErr (upTo G i) h = 0 := by
  unfold setErr
  rw [if_neg (by rw [hrt]; decide), if_neg (fun hc => by rw [hlen] at hc; omega)]
 refine ⟨h0, ?_⟩
 unfold setS
 rw [if_pos h0]
 unfold setC
 rw [if_neg hkn]
 unfold upTo
 congr 1
 rw [List.take_add_one, hx]
 show stampE 0 (G.take i) ++ [(h, i)] = stampE 0 (G.take i ++ [h])
 rw [stampE_snoc, List.length_take, Nat.zero_add, show min i G.length = i by omega]
theorem upTo_ci {G : List Hd} (ho : OrdC cmpHd G) (hr : ∀ g ∈ G, rightT g.t = true) (hd : ∀ g ∈ G, g.dom < 4294967296) (hl : G.length ≤ 64) {i : Nat} (hi : i ≤ G.length) : CI (upTo G i) := by
 have h1 : OrdC cmpHd (G.take i) := ho.sublist (List.take_sublist _ _)
 have h2 : (G.take i).length = i := by rw [List.length_take]; omega
 have := stampE_ci h1 (fun g hg => hr g (List.mem_of_mem_take hg)) (fun g hg => hd g (List.mem_of_mem_take hg)) (by omega) (decide (i = 0)) (fun hb => by
  have : i = 0 := of_decide_eq_true hb
  subst this; rfl)
 rw [h2] at this
 exact this
theorem upTo_all (c : Cs) : upTo (listE c.es) (listE c.es).length = cloneS c := by
 unfold upTo cloneS
 rw [List.take_length]
 congr 1
 have : (listE c.es).length = 0 ↔ listE c.es = [] := List.length_eq_zero_iff
 exact decide_eq_decide.2 this
end Go.Proofs.YtnajpmepcffnaaaGreatDoor
end

section
/- cache: Clone. -/
namespace Go.Proofs.YtnajpmepcffnaaaGreatDoor
open Go.Ve

theorem upTo_zero (G : List Hd) : upTo G 0 = ⟨true, [], 0⟩ := rfl
theorem cH_upTo (G : List Hd) (i : Nat) : cH (upTo G (i + 1)) = CHp (stampE 0 (G.take (i + 1))) (i + 1) := by
 unfold cH upTo
 rw [decide_eq_false (by omega)]; rfl
theorem cHat_upTo (G : List Hd) (k i : Nat) : cHat k (upTo G (i + 1)) = [.box 67 [.own (k + 1)], .map pk2 (ces (stampE 0 (G.take (i + 1)))) (i + 1)] := by
 unfold cHat upTo
 rw [decide_eq_false (by omega)]; rfl
theorem clone_ok (c : Cs) (hc : CI c) : DCall P 21 [.ptr 0 0] (cH c) (.ptr (cH c).length 0) (cH c ++ cHat (cH c).length (cloneS c)) := by
 have q0 := cnew_ok
 have q1 := list_ok c hc
 obtain ⟨ho, hr, hd, hl⟩ := hc.list
 rw [← upTo_all c]
 obtain ⟨nl, es, clk⟩ := c
 cases nl
 ·show DCall P _ _ (CHp es clk) (.ptr 2 0) (CHp es clk ++ cHat 2 (upTo (listE es) (listE es).length))
  have q1 : DCall P 15 [.ptr 0 0] (CHp es clk) (.sl (hdl (listE es))) (CHp es clk) := q1
  have hsets : ∀ (i : Nat) (h : Hd), (listE es)[i]? = some h → DCall P 42 [.ptr 0 0, .int .u32 (h.dom : Int), tv h.t] (cH (upTo (listE es) i)) (.int .i64 0) (cH (upTo (listE es) (i + 1))) := fun i h hx => by
   obtain ⟨h1, h2⟩ := clone_step ho hr hl hx
   have hi := (List.getElem?_eq_some_iff.1 hx).1
   have := set_ok (upTo (listE es) i) (upTo_ci ho hr hd hl (Nat.le_of_lt hi)) h (by have := rightT_len (hr h (List.mem_of_getElem? hx)); omega)
   rwa [h1, h2] at this
  have hl : (listE es).length ≤ 64 := hl
  clear ho hr hd
  generalize listE es = G at *
  have hlc := hdl_len G
  refine DCall.of_awp tok mixed fn21 (Nat.le_of_ble_eq_true rfl) ?_
  (conv => whnf); repeat' ((with_reducible refine Box.mk ?_) <;> conv => whnf)
  refine aW [] q0 rfl rfl rfl ?_
  (conv => whnf); repeat' ((with_reducible refine Box.mk ?_) <;> conv => whnf)
  refine aW [0, 1] q1 rfl rfl rfl ?_
  (conv => whnf); repeat' ((with_reducible refine Box.mk ?_) <;> conv => whnf)
  refine aloop (fun i : Nat => i ≤ G.length) (fun i => ⟨envL [(3, .ptr 2 0), (8, .sl (hdl G)), (9, .int .i64 ((hdl G).length : Int)), (10, .int .i64 (i : Int))], CHp es clk ++ cHat 2 (upTo G i)⟩) (fun i => G.length - i) 0 (Nat.zero_le _)
   (weak_to ⟨rfl, rfl, rfl, rfl, trivial⟩ rfl) ?_
  intro i hi
  by_cases hlt : i < G.length
  ·have hx := List.getElem?_eq_getElem hlt
   have q2 := hsets i _ hx
   generalize G[i] = h at *
   cases i with
   | zero =>
    rw [upTo_zero] at *
    rw [cH_upTo] at q2
    (conv => whnf); (repeat' ((with_reducible first | refine Box.mk ?_ | refine And.intro (fun _ => ?_) (fun _ => ?_) | fail) <;> conv => whnf))
    rotate_left
    ·exfalso; rename_i h; have h : ¬ ((0 : Nat) : Int) < ((hdl G).length : Int) := h; omega
    refine ⟨by omega, hdc h, by rw [Int.toNat_natCast, hdl_get, hx]; rfl, rfl, ?_⟩
    (conv => whnf); repeat' ((with_reducible refine Box.mk ?_) <;> conv => whnf)
    refine aW [2] q2 rfl rfl rfl ?_
    (conv => whnf); repeat' ((with_reducible refine Box.mk ?_) <;> conv => whnf)
    refine ⟨1, hlt, by omega, weak_ren_to [(0, true), (1, true), (2, true), (4, true)] rfl rfl ?_ ⟨rfl, rfl, rfl, wrap_nat (n := 0) (m := 1) (by omega), trivial⟩⟩
    rw [cHat_upTo]; rfl
   | succ i =>
    rw [cHat_upTo]
    rw [cH_upTo, cH_upTo] at q2
    (conv => whnf); (repeat' ((with_reducible first | refine Box.mk ?_ | refine And.intro (fun _ => ?_) (fun _ => ?_) | fail) <;> conv => whnf))
    rotate_left
    ·exfalso; rename_i h; have h : ¬ ((i + 1 : Nat) : Int) < ((hdl G).length : Int) := h; omega
    refine ⟨by omega, hdc h, by rw [Int.toNat_natCast, hdl_get, hx]; rfl, rfl, ?_⟩
    (conv => whnf); repeat' ((with_reducible refine Box.mk ?_) <;> conv => whnf)
    refine aW [2, 3] q2 rfl rfl rfl ?_
    (conv => whnf); repeat' ((with_reducible refine Box.mk ?_) <;> conv => whnf)
    refine ⟨i + 1 + 1, hlt, by omega, weak_ren_to [(0, true), (1, true), (2, true), (3, true)] rfl rfl ?_ ⟨rfl, rfl, rfl, wrap_nat (m := 1) (by omega), trivial⟩⟩
    rw [cHat_upTo]; rfl
  ·have : i = G.length := by omega
   subst this
   cases hG : G.length with
   | zero =>
    rw [hG] at hlc
    rw [upTo_zero]
    (conv => whnf); (repeat' ((with_reducible first | refine Box.mk ?_ | refine And.intro (fun _ => ?_) (fun _ => ?_) | fail) <;> conv => whnf))
    ·exfalso; rename_i h; have h : ((0 : Nat) : Int) < ((hdl G).length : Int) := h; omega
    exact weak_to ⟨rfl, trivial⟩ rfl
   | succ n =>
    rw [hG] at hlc
    rw [cHat_upTo]
    (conv => whnf); (repeat' ((with_reducible first | refine Box.mk ?_ | refine And.intro (fun _ => ?_) (fun _ => ?_) | fail) <;> conv => whnf))
    ·exfalso; rename_i h; have h : ((n + 1 : Nat) : Int) < ((hdl G).length : Int) := h; omega
    exact weak_to ⟨rfl, trivial⟩ rfl
 ·have hes : es = [] := (hc.nil rfl).1
  subst hes
  have hl0 : listE [] = [] := List.length_eq_zero_iff.1 (by rw [listE_len]; rfl)
  show DCall P _ _ [.box 67 [.nilm]] (.ptr 1 0) ([.box 67 [.nilm]] ++ cHat 1 (upTo (listE []) (listE []).length))
  have q1 : DCall P 15 [.ptr 0 0] [.box 67 [.nilm]] (.sl (hdl (listE []))) [.box 67 [.nilm]] := q1
  rw [hl0] at *
  show DCall P _ _ [.box 67 [.nilm]] (.ptr 1 0) [.box 67 [.nilm], .box 67 [.nilm]]
  refine DCall.of_awp tok mixed fn21 (Nat.le_of_ble_eq_true rfl) ?_
  (conv => whnf); repeat' ((with_reducible refine Box.mk ?_) <;> conv => whnf)
  refine aW [] q0 rfl rfl rfl ?_
  (conv => whnf); repeat' ((with_reducible refine Box.mk ?_) <;> conv => whnf)
  refine aW [0] q1 rfl rfl rfl ?_
  (conv => whnf); repeat' ((with_reducible refine Box.mk ?_) <;> conv => whnf)
  refine aloop (fun _ : Unit => True) (fun _ => ⟨envL [(3, .ptr 1 0), (9, .int .i64 0), (10, .int .i64 0)], [.box 67 [.nilm], .box 67 [.nilm]]⟩) (fun _ => 0) () trivial (weak_to ⟨rfl, rfl, rfl, trivial⟩ rfl) ?_
  rintro _ _
  (conv => whnf); (repeat' ((with_reducible first | refine Box.mk ?_ | refine And.intro (fun _ => ?_) (fun _ => ?_) | fail) <;> conv => whnf))
  ·rename_i h; exact absurd h (by decide)
  exact weak_to ⟨rfl, trivial⟩ rfl
end Go.Proofs.YtnajpmepcffnaaaGreatDoor
end

section
/- ipfix, plain laws: first the sets, then what each of them says; sets one behind the other. -/
namespace Go.Proofs.YtnajpmepcffnaaaGreatDoor
open Go.Ve

def setsL : Nat → Bs → List (Nat × Bs) × Int
 | 0, _ => ([], 0)
 | n + 1, bs => if bs = [] then ([], 0) else if bs.length < 4 then ([], 8) else if cntB bs < 4 then ([], 3) else if bs.length < cntB bs then ([], 8) else
  match setsL n (bs.drop (cntB bs)) with
  | (l, e) => ((idB bs, (bs.drop 4).take (cntB bs - 4)) :: l, e)
section
variable {σ : Type} (O : Ops σ)
def foldR : List (Nat × Bs) → Rd σ → Rd σ × Int
 | [], d => (d, 0)
 | x :: r, d => match setF O d x.1 x.2 with
  | (d1, er) => if er ≠ 0 then (d1, er) else foldR r d1
theorem fold_sets : ∀ (n : Nat) (d : Rd σ) (bs : Bs), (setsF O n d bs).2 = (if (foldR O (setsL n bs).1 d).2 ≠ 0 then (foldR O (setsL n bs).1 d).2 else (setsL n bs).2) ∧ ((setsF O n d bs).2 = 0 → (setsF O n d bs).1 = (foldR O (setsL n bs).1 d).1)
 | 0, d, bs => ⟨rfl, fun _ => rfl⟩
 | n + 1, d, bs => by
  unfold setsF setsL
  by_cases h1 : bs = []
  ·rw [if_pos h1, if_pos h1]; exact ⟨rfl, fun _ => rfl⟩
  rw [if_neg h1, if_neg h1]
  by_cases h2 : bs.length < 4
  ·rw [if_pos h2, if_pos h2]; exact ⟨rfl, fun h => by cases h⟩
  rw [if_neg h2, if_neg h2]
  by_cases h3 : cntB bs < 4
  ·rw [if_pos h3, if_pos h3]; exact ⟨rfl, fun h => by cases h⟩
  rw [if_neg h3, if_neg h3]
  by_cases h4 : bs.length < cntB bs
  ·rw [if_pos h4, if_pos h4]; exact ⟨rfl, fun h => by cases h⟩
  rw [if_neg h4, if_neg h4]
  rcases hx : setF O d (idB bs) ((bs.drop 4).take (cntB bs - 4)) with ⟨d1, er⟩
  have ih := fold_sets n d1 (bs.drop (cntB bs))
  rcases hl : setsL n (bs.drop (cntB bs)) with ⟨l, e⟩
  rw [hl] at ih
  dsimp only at ih ⊢
  rw [show foldR O ((idB bs, (bs.drop 4).take (cntB bs - 4)) :: l) d = (if er ≠ 0 then (d1, er) else foldR O l d1) by rw [foldR, hx]]
  by_cases h5 : er ≠ 0
  ·rw [if_pos h5, if_pos h5, if_pos h5]; exact ⟨rfl, fun h => absurd h h5⟩
  ·rw [if_neg h5, if_neg h5]; exact ih
end
def specsG : Nat → Bs → Int → List Sc × Bs × Int
 | 0, bs, e => ([], bs, e)
 | n + 1, bs, e => match readF bs e with
  | (s, b1, e1) => match specsG n b1 e1 with
   | (l, b2, e2) => (s :: l, b2, e2)
theorem specsG_bad : ∀ (n : Nat) {bs : Bs} {e : Int}, e ≠ 0 → (specsG n bs e).2 = (bs, e)
 | 0, _, _, _ => rfl
 | n + 1, bs, e, he => by
  unfold specsG
  have h := read_err (bs := bs) he
  rcases hr : readF bs e with ⟨s, b1, e1⟩
  rw [hr] at h
  simp only [Prod.mk.injEq] at h
  obtain ⟨rfl, rfl⟩ := h
  dsimp only
  have h2 := specsG_bad n (bs := b1) he
  rcases hs : specsG n b1 e1 with ⟨l, b2, e2⟩
  rw [hs] at h2
  exact h2
theorem specs_same : ∀ (n : Nat) (bs : Bs) (e : Int), (specsG n bs e).2.2 = (specsF n bs e).2.2 ∧ ((specsF n bs e).2.2 = 0 → specsG n bs e = specsF n bs e)
 | 0, _, _ => ⟨rfl, fun _ => rfl⟩
 | n + 1, bs, e => by
  by_cases he : e = 0
  ·subst he
   unfold specsG specsF
   rw [if_neg (fun h => h rfl)]
   rcases readF bs 0 with ⟨s, b1, e1⟩
   dsimp only
   obtain ⟨h1, h2⟩ := specs_same n b1 e1
   rcases hx : specsG n b1 e1 with ⟨l, b2, e2⟩
   rcases hy : specsF n b1 e1 with ⟨l', b2', e2'⟩
   rw [hx, hy] at h1 h2
   dsimp only at h1 h2 ⊢
   refine ⟨h1, fun h0 => ?_⟩
   have := h2 h0
   simp only [Prod.mk.injEq] at this
   obtain ⟨rfl, rfl, rfl⟩ := this
   rfl
  ·have h1 := specsG_bad (n + 1) (bs := bs) he
   have h2 : specsF (n + 1) bs e = ([], bs, e) := by unfold specsF; rw [if_pos he]
   rw [h2]
   exact ⟨by rw [h1], fun h0 => absurd h0 he⟩
section
variable {σ : Type} (O : Ops σ)
def scopeX (opt : Bool) (n : Nat) (b : Bs) : Nat × Bs × Int :=
 bif opt then match rawF 2 b 0 with
  | (x3, b3, e3) => (valB x3, b3, mustE e3 (decide (0 < valB x3 ∧ valB x3 ≤ n)))
 else (0, b, 0)
def tmplX (c : σ) (d : Nat) (opt : Bool) (bs : Bs) : σ × Int × Bs :=
 if cntB bs = 0 then ((withdrawF O c d opt (idB bs)).1, (withdrawF O c d opt (idB bs)).2, bs.drop 4)
 else if 64 < cntB bs then (c, 3, [])
 else match scopeX opt (cntB bs) (bs.drop 4) with
  | (sc, b4, e4) => match specsG (cntB bs) b4 e4 with
   | (fs, b5, e5) => if e5 ≠ 0 then (c, e5, b5) else (O.set c ⟨d, ⟨(idB bs : Int), (sc : Int), fs⟩⟩, O.setErr c ⟨d, ⟨(idB bs : Int), (sc : Int), fs⟩⟩, b5)
theorem tmpl_same (c : σ) (d : Nat) (opt : Bool) (bs : Bs) : (tmplX O c d opt bs).1 = (tmplF O c d opt bs).1 ∧ (tmplX O c d opt bs).2.1 = (tmplF O c d opt bs).2.1 ∧ ((tmplF O c d opt bs).2.1 = 0 → (tmplX O c d opt bs).2.2 = (tmplF O c d opt bs).2.2) := by
 unfold tmplX tmplF
 by_cases h0 : cntB bs = 0
 ·rw [if_pos h0, if_pos h0]; exact ⟨rfl, rfl, fun _ => rfl⟩
 rw [if_neg h0, if_neg h0]
 by_cases h1 : 64 < cntB bs
 ·rw [if_pos h1]
  have hs : (scopeF opt (cntB bs) (bs.drop 4)).2.2 = 3 := by
   unfold scopeF
   have : mustE 0 (decide (cntB bs ≤ 64)) = 3 := by rw [decide_eq_false (by omega)]; rfl
   rw [this]
   cases opt
   ·rfl
   ·rw [cond_true, rawF_bad (show (3 : Int) ≠ 0 by decide)]; exact mst_err (show (3 : Int) ≠ 0 by decide) (decide (1 ≤ valB [] ∧ valB [] ≤ cntB bs))
  rcases hx : scopeF opt (cntB bs) (bs.drop 4) with ⟨sc, b4, e4⟩
  rw [hx] at hs
  have hs : e4 = 3 := hs
  subst hs
  dsimp only
  have h2 : specsF (cntB bs) b4 3 = ([], b4, 3) := by
   cases hc : cntB bs with
   | zero => exact absurd hc h0
   | succ n => unfold specsF; rw [if_pos (by decide)]
  rw [h2]
  dsimp only
  rw [if_pos (by decide)]
  exact ⟨rfl, rfl, fun h => by cases h⟩
 ·rw [if_neg h1]
  have hs : scopeX opt (cntB bs) (bs.drop 4) = scopeF opt (cntB bs) (bs.drop 4) := by
   unfold scopeX scopeF
   rw [decide_eq_true (show cntB bs ≤ 64 by omega), mst_ok]
   rfl
  rw [hs]
  rcases scopeF opt (cntB bs) (bs.drop 4) with ⟨sc, b4, e4⟩
  dsimp only
  obtain ⟨k1, k2⟩ := specs_same (cntB bs) b4 e4
  rcases hx : specsG (cntB bs) b4 e4 with ⟨fs, b5, e5⟩
  rcases hy : specsF (cntB bs) b4 e4 with ⟨fs', b5', e5'⟩
  rw [hx, hy] at k1 k2
  have k1 : e5 = e5' := k1
  subst k1
  dsimp only
  by_cases h5 : e5 ≠ 0
  ·rw [if_pos h5, if_pos h5]; exact ⟨rfl, rfl, fun h => absurd h h5⟩
  ·rw [if_neg h5, if_neg h5]
   have := k2 (Decidable.not_not.1 h5)
   simp only [Prod.mk.injEq] at this
   obtain ⟨rfl, rfl, _⟩ := this
   exact ⟨rfl, rfl, fun _ => rfl⟩
def tmplsX : Nat → σ → Nat → Bool → Bs → σ × Int
 | 0, c, _, _, _ => (c, 0)
 | n + 1, c, d, opt, bs => if bs.length < 4 then (c, 0) else match tmplX O c d opt bs with
  | (c1, er, b1) => if er ≠ 0 then (c1, er) else tmplsX n c1 d opt b1
theorem tmpls_same : ∀ (n : Nat) (c : σ) (d : Nat) (opt : Bool) (bs : Bs), tmplsX O n c d opt bs = tmplsF O n c d opt bs
 | 0, _, _, _, _ => rfl
 | n + 1, c, d, opt, bs => by
  unfold tmplsX tmplsF
  by_cases h0 : bs.length < 4
  ·rw [if_pos h0, if_pos h0]
  rw [if_neg h0, if_neg h0]
  obtain ⟨h1, h2, h3⟩ := tmpl_same O c d opt bs
  rcases hx : tmplX O c d opt bs with ⟨c1, er, b1⟩
  rcases hy : tmplF O c d opt bs with ⟨c2, er2, b2⟩
  rw [hx, hy] at h1 h2 h3
  have h1 : c1 = c2 := h1
  have h2 : er = er2 := h2
  subst h1
  subst h2
  dsimp only at h3 ⊢
  by_cases h5 : er ≠ 0
  ·rw [if_pos h5, if_pos h5]
  ·rw [if_neg h5, if_neg h5, h3 (Decidable.not_not.1 h5)]
   exact tmpls_same n c1 d opt b2
end

section
variable {σ : Type} (O : Ops σ)
end
end Go.Proofs.YtnajpmepcffnaaaGreatDoor
end

section
/- ipfix, plain laws: other domains; flows that may be; a message's bytes. -/
namespace Go.Proofs.YtnajpmepcffnaaaGreatDoor
open Go.Ve

def Keeps (d : Nat) (c c' : Cs) : Prop := ∀ h : Hd, h.dom ≠ d → ((∃ e ∈ c.es, e.1 = h) ↔ ∃ e ∈ c'.es, e.1 = h)
theorem Keeps.refl (d : Nat) (c : Cs) : Keeps d c c := fun _ _ => Iff.rfl
theorem Keeps.trans {d : Nat} {c c' c'' : Cs} (h1 : Keeps d c c') (h2 : Keeps d c' c'') : Keeps d c c'' := fun h hd => (h1 h hd).trans (h2 h hd)
structure Hh where
 time : Nat
 seq : Nat
 dom : Nat
 lost : Int
 idle : Int
def msgB (h : Hh) (b : Bs) : Bs := numB 10 2 ++ (numB (16 + b.length) 2 ++ (numB h.time 4 ++ (numB h.seq 4 ++ (numB h.dom 4 ++ b))))
def hd0 {σ : Type} (c : σ) (h : Hh) : Rd σ := ⟨c, h.time, h.seq, h.dom, 0, 0, []⟩
end Go.Proofs.YtnajpmepcffnaaaGreatDoor
end

section
/- field: flows that may be. -/
namespace Go.Proofs.YtnajpmepcffnaaaGreatDoor
open Go.Ve

end Go.Proofs.YtnajpmepcffnaaaGreatDoor
end

section
/- ipfix: what is kept through; objects; withdrawing. -/
namespace Go.Proofs.YtnajpmepcffnaaaGreatDoor
open Go.Ve

theorem nl_set {c : Cs} (h : c.nl = false) (x : Hd) : (setS c x).nl = false := by
 unfold setS setC
 split
 ·split
  ·exact h
  ·rfl
 ·exact h
theorem nl_withdraw {c : Cs} (d : Nat) (opt : Bool) (id : Nat) : (withdrawF opC c d opt id).1.nl = c.nl := by
 unfold withdrawF
 split
 ·rfl
 ·split <;> rfl
theorem ci_withdraw {c : Cs} (h : CI c) (d : Nat) (opt : Bool) (id : Nat) : CI (withdrawF opC c d opt id).1 := by
 unfold withdrawF
 split
 ·exact h.dropAll _ _
 ·split
  ·exact h
  ·exact h.drop _
theorem nl_tmpl {c : Cs} (h : c.nl = false) (d : Nat) (opt : Bool) (bs : Bs) : (tmplF opC c d opt bs).1.nl = false := by
 unfold tmplF
 split
 ·exact (nl_withdraw d opt _).trans h
 ·rcases scopeF opt (cntB bs) (bs.drop 4) with ⟨sc, b4, e4⟩
  dsimp only
  rcases specsF (cntB bs) b4 e4 with ⟨fs, b5, e5⟩
  dsimp only
  split
  ·exact h
  ·exact nl_set h _
theorem ci_tmpl {c : Cs} (h : CI c) {d : Nat} (hd : d < 4294967296) (opt : Bool) (bs : Bs) : CI (tmplF opC c d opt bs).1 := by
 unfold tmplF
 split
 ·exact ci_withdraw h _ _ _
 ·rcases scopeF opt (cntB bs) (bs.drop 4) with ⟨sc, b4, e4⟩
  dsimp only
  rcases specsF (cntB bs) b4 e4 with ⟨fs, b5, e5⟩
  dsimp only
  split
  ·exact h
  ·exact h.set hd
theorem ci_tmpls : ∀ (n : Nat) {c : Cs}, CI c → ∀ {d : Nat}, d < 4294967296 → ∀ (opt : Bool) (bs : Bs), CI (tmplsF opC n c d opt bs).1
 | 0, c, h, d, hd, opt, bs => h
 | n + 1, c, h, d, hd, opt, bs => by
  unfold tmplsF
  split
  ·exact h
  ·have h1 := ci_tmpl h hd opt bs
   generalize tmplF opC c d opt bs = q0 at *
   obtain ⟨c1, er, b1⟩ := q0
   dsimp only at h1 ⊢
   split
   ·exact h1
   ·exact ci_tmpls n h1 hd opt b1
theorem nl_tmpls : ∀ (n : Nat) {c : Cs}, c.nl = false → ∀ (d : Nat) (opt : Bool) (bs : Bs), (tmplsF opC n c d opt bs).1.nl = false
 | 0, c, h, d, opt, bs => h
 | n + 1, c, h, d, opt, bs => by
  unfold tmplsF
  split
  ·exact h
  ·have h1 := nl_tmpl h d opt bs
   generalize tmplF opC c d opt bs = q0 at *
   obtain ⟨c1, er, b1⟩ := q0
   dsimp only at h1 ⊢
   split
   ·exact h1
   ·exact nl_tmpls n h1 d opt b1
theorem recs_more : ∀ (n : Nat) (fs : List Sc) (bs : Bs) (out : List Rc), (recsF n fs bs out).1.length ≤ out.length + n
 | 0, _, _, _ => Nat.le_refl _
 | n + 1, fs, bs, out => by
  unfold recsF
  split
  ·show out.length ≤ _; omega
  ·generalize recF fs bs zeroR = q0 at *
   obtain ⟨f, er, b1⟩ := q0
   dsimp only
   split
   ·show out.length ≤ _; omega
   ·have := recs_more n fs b1 (out ++ [f])
    rw [List.length_append] at this
    have h1 : [f].length = 1 := rfl
    omega
structure RI (d : Rd Cs) (k : Nat) : Prop where
 ci : CI d.c
 dom : d.dom < 4294967296
 lost : d.lost + k ≤ 2000000000
 idle : d.idle + k ≤ 2000000000
 out : d.out.length + k ≤ 2000000000
theorem RI.set {d : Rd Cs} {k : Nat} (h : RI d k) {j : Nat} (id : Nat) (b : Bs) (hk : b.length + 1 + j ≤ k) : RI (setF opC d id b).1 j := by
 obtain ⟨h1, h2, h3, h4, h5⟩ := h
 unfold setF
 split
 ·exact ⟨ci_tmpls _ h1 h2 _ _, h2, by show d.lost + _ ≤ _; omega, by show d.idle + _ ≤ _; omega, by show d.out.length + _ ≤ _; omega⟩
 ·split
  ·exact ⟨ci_tmpls _ h1 h2 _ _, h2, by show d.lost + _ ≤ _; omega, by show d.idle + _ ≤ _; omega, by show d.out.length + _ ≤ _; omega⟩
  ·split
   ·exact ⟨h1, h2, by show d.lost + _ ≤ _; omega, by show d.idle + _ ≤ _; omega, by show d.out.length + _ ≤ _; omega⟩
   ·unfold recordsF
    split
    ·exact ⟨h1, h2, by show d.lost + 1 + _ ≤ _; omega, by show d.idle + _ ≤ _; omega, by show d.out.length + _ ≤ _; omega⟩
    ·split
     ·exact ⟨h1, h2, by show d.lost + _ ≤ _; omega, by show d.idle + 1 + _ ≤ _; omega, by show d.out.length + _ ≤ _; omega⟩
     ·rename_i x _ _
      have := recs_more b.length x.t.fields b d.out
      exact ⟨h1, h2, by show d.lost + _ ≤ _; omega, by show d.idle + _ ≤ _; omega, by show (recsF b.length x.t.fields b d.out).1.length + _ ≤ _; omega⟩
theorem nl_setF {d : Rd Cs} (h : d.c.nl = false) (id : Nat) (b : Bs) : (setF opC d id b).1.c.nl = false := by
 unfold setF
 split
 ·exact nl_tmpls _ h _ _ _
 ·split
  ·exact nl_tmpls _ h _ _ _
  ·split
   ·exact h
   ·unfold recordsF
    split
    ·exact h
    ·split
     ·exact h
     ·exact h

def rcl (l : List Rc) : List (List AV) := l.map rcc
theorem rcl_len (l : List Rc) : (rcl l).length = l.length := List.length_map ..
def rdB (d : Rd Cs) : Ob := .box 72 [.ptr 0 0, .int .u32 (d.time : Int), .int .u32 (d.seq : Int), .int .u32 (d.dom : Int), .int .i64 (d.lost : Int), .int .i64 (d.idle : Int), .own 2]
def rdR (d : Rd Cs) : Ob := .row 55 22 (rcl d.out)
def dF (d : Rd Cs) : Hp := [.box 67 [.own 3], rdB d, rdR d, .map pk2 (ces d.c.es) d.c.clk]
def dN (d : Rd Cs) : Hp := [.box 67 [.nilm], rdB d, rdR d]
def dH (d : Rd Cs) : Hp := bif d.c.nl then dN d else dF d
def tF (d : Rd Cs) (bs : Bs) (e : Int) : Hp := [.box 67 [.own 4], rdB d, rdR d, .box 140 [.bool true, .sl (bcl bs), .int .i64 e], .map pk2 (ces d.c.es) d.c.clk]
def tN (d : Rd Cs) (bs : Bs) (e : Int) : Hp := [.box 67 [.nilm], rdB d, rdR d, .box 140 [.bool true, .sl (bcl bs), .int .i64 e]]
def tH (d : Rd Cs) (bs : Bs) (e : Int) : Hp := bif d.c.nl then tN d bs e else tF d bs e

theorem num2 {bs : Bs} (h : 2 ≤ bs.length) (hbs : bs.length ≤ 1000000000) : DCall P 41 [.ptr 0 0, .int .i64 2] (rH bs 0) (.int .u64 ((valB (bs.take 2) : Nat) : Int)) (rH (bs.drop 2) 0) := by
 have := rNum_ok bs 0 2 hbs
 rwa [show ((szN 2 : Nat) : Int) = ((2 : Nat) : Int) from rfl, rawF_yes h] at this
theorem num4 {bs : Bs} (h : 4 ≤ bs.length) (hbs : bs.length ≤ 1000000000) : DCall P 41 [.ptr 0 0, .int .i64 4] (rH bs 0) (.int .u64 ((valB (bs.take 4) : Nat) : Int)) (rH (bs.drop 4) 0) := by
 have := rNum_ok bs 0 4 hbs
 rwa [show ((szN 4 : Nat) : Int) = ((4 : Nat) : Int) from rfl, rawF_yes h] at this
theorem val2 (bs : Bs) : valB (bs.take 2) < 65536 := by
 refine Nat.lt_of_lt_of_le (valB_lt _) (show 256 ^ _ ≤ 256 ^ 2 from Nat.pow_le_pow_right (by decide) ?_)
 rw [List.length_take]; omega
theorem val4 (bs : Bs) : valB (bs.take 4) < 4294967296 := by
 refine Nat.lt_of_lt_of_le (valB_lt _) (show 256 ^ _ ≤ 256 ^ 4 from Nat.pow_le_pow_right (by decide) ?_)
 rw [List.length_take]; omega

theorem withdraw_ok (d : Rd Cs) (hc : CI d.c) (opt : Bool) (id : Nat) (hid : id < 65536) :
  DCall P 122 [.ptr 1 0, .bool opt, .int .i64 (id : Int)] (dH d) (.int .i64 (withdrawF opC d.c d.dom opt id).2) (dH { d with c := (withdrawF opC d.c d.dom opt id).1 }) := by
 have q1 := dropAll_ok d.c hc d.dom opt
 have q2 := drop_ok d.c hc d.dom (id : Int)
 generalize (d.c.es.length : Int) - ((dropAllS d.c d.dom opt).es.length : Int) = r1 at *
 generalize dropErr d.c.es (d.dom, (id : Int)) = r2 at *
 unfold withdrawF
 obtain ⟨⟨nl, es, clk⟩, time, seq, dom, lost, idle, out⟩ := d
 clear hc
 cases nl
 ·have q1 : DCall P 137 [.ptr 0 0, .int .u32 (dom : Int), .bool opt] (CHp (es) clk) (.int .i64 r1) (CHp (es.filter fun e => !ofKind dom opt e.1) clk) := q1
  have q2 : DCall P 138 [.ptr 0 0, .int .u32 (dom : Int), .int .i64 (id : Int)] (CHp (es) clk) (.int .i64 r2) (CHp (es.filter fun e => !decide (keyH e.1 = (dom, (id : Int)))) clk) := q2
  cases opt
  ·show DCall P _ _ (dF ⟨⟨false, es, clk⟩, time, seq, dom, lost, idle, out⟩) (.int .i64 (if id = 2 then (dropAllS ⟨false, es, clk⟩ dom false, (0 : Int)) else if id < 256 then (⟨false, es, clk⟩, 3) else (dropS ⟨false, es, clk⟩ (dom, (id : Int)), 0)).2) (dH ⟨(if id = 2 then (dropAllS ⟨false, es, clk⟩ dom false, (0 : Int)) else if id < 256 then (⟨false, es, clk⟩, 3) else (dropS ⟨false, es, clk⟩ (dom, (id : Int)), 0)).1, time, seq, dom, lost, idle, out⟩)
   refine DCall.of_awp tok mixed fn122 (Nat.le_of_ble_eq_true rfl) ?_
   (conv => whnf); (repeat' ((with_reducible first | refine Box.mk ?_ | refine And.intro (fun _ => ?_) (fun _ => ?_) | fail) <;> conv => whnf))
   ·rename_i h
    rw [if_pos (show id = 2 by omega)]
    refine ⟨[(2010, [])], by kernel_rfl, ?_⟩
    (conv => whnf); repeat' ((with_reducible refine Box.mk ?_) <;> conv => whnf)
    refine aDw [0, 3] q1 rfl rfl rfl ?_
    (conv => whnf); repeat' ((with_reducible refine Box.mk ?_) <;> conv => whnf)
    exact weak_ren_to [(0, true), (1, true), (2, true), (3, true)] rfl rfl rfl ⟨rfl, trivial⟩
   ·rename_i h h2
    rw [if_neg (show ¬ id = 2 by omega), if_pos (show id < 256 by omega)]
    exact weak_ren_to [(0, true), (1, true), (2, true), (3, true)] rfl rfl rfl ⟨rfl, trivial⟩
   ·rename_i h h2
    rw [if_neg (show ¬ id = 2 by omega), if_neg (show ¬ id < 256 by omega)]
    refine ⟨[(2010, [])], by kernel_rfl, ?_⟩
    (conv => whnf); repeat' ((with_reducible refine Box.mk ?_) <;> conv => whnf)
    refine aDw [0, 3] q2 rfl rfl rfl ?_
    (conv => whnf); repeat' ((with_reducible refine Box.mk ?_) <;> conv => whnf)
    exact weak_ren_to [(0, true), (1, true), (2, true), (3, true)] rfl rfl rfl ⟨rfl, trivial⟩
  ·show DCall P _ _ (dF ⟨⟨false, es, clk⟩, time, seq, dom, lost, idle, out⟩) (.int .i64 (if id = 3 then (dropAllS ⟨false, es, clk⟩ dom true, (0 : Int)) else if id < 256 then (⟨false, es, clk⟩, 3) else (dropS ⟨false, es, clk⟩ (dom, (id : Int)), 0)).2) (dH ⟨(if id = 3 then (dropAllS ⟨false, es, clk⟩ dom true, (0 : Int)) else if id < 256 then (⟨false, es, clk⟩, 3) else (dropS ⟨false, es, clk⟩ (dom, (id : Int)), 0)).1, time, seq, dom, lost, idle, out⟩)
   refine DCall.of_awp tok mixed fn122 (Nat.le_of_ble_eq_true rfl) ?_
   (conv => whnf); (repeat' ((with_reducible first | refine Box.mk ?_ | refine And.intro (fun _ => ?_) (fun _ => ?_) | fail) <;> conv => whnf))
   ·rename_i h
    rw [if_pos (show id = 3 by omega)]
    refine ⟨[(2010, [])], by kernel_rfl, ?_⟩
    (conv => whnf); repeat' ((with_reducible refine Box.mk ?_) <;> conv => whnf)
    refine aDw [0, 3] q1 rfl rfl rfl ?_
    (conv => whnf); repeat' ((with_reducible refine Box.mk ?_) <;> conv => whnf)
    exact weak_ren_to [(0, true), (1, true), (2, true), (3, true)] rfl rfl rfl ⟨rfl, trivial⟩
   ·rename_i h h2
    rw [if_neg (show ¬ id = 3 by omega), if_pos (show id < 256 by omega)]
    exact weak_ren_to [(0, true), (1, true), (2, true), (3, true)] rfl rfl rfl ⟨rfl, trivial⟩
   ·rename_i h h2
    rw [if_neg (show ¬ id = 3 by omega), if_neg (show ¬ id < 256 by omega)]
    refine ⟨[(2010, [])], by kernel_rfl, ?_⟩
    (conv => whnf); repeat' ((with_reducible refine Box.mk ?_) <;> conv => whnf)
    refine aDw [0, 3] q2 rfl rfl rfl ?_
    (conv => whnf); repeat' ((with_reducible refine Box.mk ?_) <;> conv => whnf)
    exact weak_ren_to [(0, true), (1, true), (2, true), (3, true)] rfl rfl rfl ⟨rfl, trivial⟩
 ·have q1 : DCall P 137 [.ptr 0 0, .int .u32 (dom : Int), .bool opt] [.box 67 [.nilm]] (.int .i64 r1) [.box 67 [.nilm]] := q1
  have q2 : DCall P 138 [.ptr 0 0, .int .u32 (dom : Int), .int .i64 (id : Int)] [.box 67 [.nilm]] (.int .i64 r2) [.box 67 [.nilm]] := q2
  cases opt
  ·show DCall P _ _ (dN ⟨⟨true, es, clk⟩, time, seq, dom, lost, idle, out⟩) (.int .i64 (if id = 2 then (dropAllS ⟨true, es, clk⟩ dom false, (0 : Int)) else if id < 256 then (⟨true, es, clk⟩, 3) else (dropS ⟨true, es, clk⟩ (dom, (id : Int)), 0)).2) (dH ⟨(if id = 2 then (dropAllS ⟨true, es, clk⟩ dom false, (0 : Int)) else if id < 256 then (⟨true, es, clk⟩, 3) else (dropS ⟨true, es, clk⟩ (dom, (id : Int)), 0)).1, time, seq, dom, lost, idle, out⟩)
   refine DCall.of_awp tok mixed fn122 (Nat.le_of_ble_eq_true rfl) ?_
   (conv => whnf); (repeat' ((with_reducible first | refine Box.mk ?_ | refine And.intro (fun _ => ?_) (fun _ => ?_) | fail) <;> conv => whnf))
   ·rename_i h
    rw [if_pos (show id = 2 by omega)]
    refine ⟨[(2010, [])], by kernel_rfl, ?_⟩
    (conv => whnf); repeat' ((with_reducible refine Box.mk ?_) <;> conv => whnf)
    refine aDw [0] q1 rfl rfl rfl ?_
    (conv => whnf); repeat' ((with_reducible refine Box.mk ?_) <;> conv => whnf)
    exact weak_ren_to [(0, true), (1, true), (2, true)] rfl rfl rfl ⟨rfl, trivial⟩
   ·rename_i h h2
    rw [if_neg (show ¬ id = 2 by omega), if_pos (show id < 256 by omega)]
    exact weak_ren_to [(0, true), (1, true), (2, true)] rfl rfl rfl ⟨rfl, trivial⟩
   ·rename_i h h2
    rw [if_neg (show ¬ id = 2 by omega), if_neg (show ¬ id < 256 by omega)]
    refine ⟨[(2010, [])], by kernel_rfl, ?_⟩
    (conv => whnf); repeat' ((with_reducible refine Box.mk ?_) <;> conv => whnf)
    refine aDw [0] q2 rfl rfl rfl ?_
    (conv => whnf); repeat' ((with_reducible refine Box.mk ?_) <;> conv => whnf)
    exact weak_ren_to [(0, true), (1, true), (2, true)] rfl rfl rfl ⟨rfl, trivial⟩
  ·show DCall P _ _ (dN ⟨⟨true, es, clk⟩, time, seq, dom, lost, idle, out⟩) (.int .i64 (if id = 3 then (dropAllS ⟨true, es, clk⟩ dom true, (0 : Int)) else if id < 256 then (⟨true, es, clk⟩, 3) else (dropS ⟨true, es, clk⟩ (dom, (id : Int)), 0)).2) (dH ⟨(if id = 3 then (dropAllS ⟨true, es, clk⟩ dom true, (0 : Int)) else if id < 256 then (⟨true, es, clk⟩, 3) else (dropS ⟨true, es, clk⟩ (dom, (id : Int)), 0)).1, time, seq, dom, lost, idle, out⟩)
   refine DCall.of_awp tok mixed fn122 (Nat.le_of_ble_eq_true rfl) ?_
   (conv => whnf); (repeat' ((with_reducible first | refine Box.mk ?_ | refine And.intro (fun _ => ?_) (fun _ => ?_) | fail) <;> conv => whnf))
   ·rename_i h
    rw [if_pos (show id = 3 by omega)]
    refine ⟨[(2010, [])], by kernel_rfl, ?_⟩
    (conv => whnf); repeat' ((with_reducible refine Box.mk ?_) <;> conv => whnf)
    refine aDw [0] q1 rfl rfl rfl ?_
    (conv => whnf); repeat' ((with_reducible refine Box.mk ?_) <;> conv => whnf)
    exact weak_ren_to [(0, true), (1, true), (2, true)] rfl rfl rfl ⟨rfl, trivial⟩
   ·rename_i h h2
    rw [if_neg (show ¬ id = 3 by omega), if_pos (show id < 256 by omega)]
    exact weak_ren_to [(0, true), (1, true), (2, true)] rfl rfl rfl ⟨rfl, trivial⟩
   ·rename_i h h2
    rw [if_neg (show ¬ id = 3 by omega), if_neg (show ¬ id < 256 by omega)]
    refine ⟨[(2010, [])], by kernel_rfl, ?_⟩
    (conv => whnf); repeat' ((with_reducible refine Box.mk ?_) <;> conv => whnf)
    refine aDw [0] q2 rfl rfl rfl ?_
    (conv => whnf); repeat' ((with_reducible refine Box.mk ?_) <;> conv => whnf)
    exact weak_ren_to [(0, true), (1, true), (2, true)] rfl rfl rfl ⟨rfl, trivial⟩
end Go.Proofs.YtnajpmepcffnaaaGreatDoor
end

section
/- ipfix: a template, read. -/
namespace Go.Proofs.YtnajpmepcffnaaaGreatDoor
open Go.Ve

def preS (l : List Sc) (x : List Sc × Bs × Int) : List Sc × Bs × Int := (l ++ x.1, x.2)
theorem preS_nil (x : List Sc × Bs × Int) : preS [] x = x := rfl
theorem preS_bad {l : List Sc} {n : Nat} {b : Bs} {e : Int} (h : e ≠ 0) : preS l (specsF n b e) = (l, b, e) := by
 cases n with
 | zero => show (l ++ [], b, e) = _; rw [List.append_nil]
 | succ n => unfold specsF; rw [if_pos h]; show (l ++ [], b, e) = _; rw [List.append_nil]
theorem preS_zero {l : List Sc} {b : Bs} {e : Int} : preS l (specsF 0 b e) = (l, b, e) := by
 show (l ++ [], b, e) = _; rw [List.append_nil]
theorem preS_step {l : List Sc} {n : Nat} {b : Bs} : preS l (specsF (n + 1) b 0) = preS (l ++ [(readF b 0).1]) (specsF n (readF b 0).2.1 (readF b 0).2.2) := by
 rw [specsF, if_neg (fun h => h rfl)]
 unfold preS
 dsimp only
 rw [List.append_assoc]; rfl
theorem scl_snoc (l : List Sc) (s : Sc) : scl (l ++ [s]) = scl l ++ [scc s] := List.map_append ..
theorem aDwC [Dr] {f : FuncId} {args ay : List AV} {H Hs H0 H1 : Hp} {r0 : AV} {K : KV} (id : Nat) (L : List Nat) (az : List AV) {rt rs : Nat} {es : List (List AV)} (h : DCall P f ay Hs r0 H0) (hI : H[id]? = some (.row rt rs es)) (hH1 : mpH (thN (H.set id (.frz es))) (H.set id (.frz es)) = H1)
  (hlen : az.length = args.length) (hE : EnvIs (fun i => mpV (thN (H.set id (.frz es))) (env0 args i)) (numL 0 az)) (hok : okL H1.length (withTrue L) = true) (hH : heapOf (gOf (withTrue L) 0) H1 (withTrue L) = Hs)
  (ha : renAL (gOf (withTrue L) 0) az = ay) (hk : K (renV (someN L H1.length) r0) (mergeH L H1 H0)) : ∃ r H1, ACall P f args H (fun r' H' => r' = r ∧ H' = H1) ∧ K r H1 :=
 ⟨_, _, ACall.weak _ rfl hlen (weak_const (s := ⟨env0 args, H⟩) id hI hH1 hE) (h.frame L hok hH ha fun _ _ _ hr => ⟨by rw [hr.1], by rw [hr.2]⟩), hk⟩
theorem withdraw_F (d : Rd Cs) (hn : d.c.nl = false) (hc : CI d.c) (opt : Bool) (id : Nat) (hid : id < 65536) :
  DCall P 122 [.ptr 1 0, .bool opt, .int .i64 (id : Int)] (dF d) (.int .i64 (withdrawF opC d.c d.dom opt id).2) (dF { d with c := (withdrawF opC d.c d.dom opt id).1 }) := by
 have := withdraw_ok d hc opt id hid
 unfold dH at this
 rwa [nl_withdraw, hn] at this
theorem withdraw_N (d : Rd Cs) (hn : d.c.nl = true) (hc : CI d.c) (opt : Bool) (id : Nat) (hid : id < 65536) :
  DCall P 122 [.ptr 1 0, .bool opt, .int .i64 (id : Int)] (dN d) (.int .i64 (withdrawF opC d.c d.dom opt id).2) (dN { d with c := (withdrawF opC d.c d.dom opt id).1 }) := by
 have := withdraw_ok d hc opt id hid
 unfold dH at this
 rwa [nl_withdraw, hn] at this
theorem set_F (c : Cs) (hn : c.nl = false) (hc : CI c) (h : Hd) (hl : h.t.fields.length ≤ 1000000000) : DCall P 42 [.ptr 0 0, .int .u32 (h.dom : Int), tv h.t] (CHp c.es c.clk) (.int .i64 (setErr c h)) (CHp (setS c h).es (setS c h).clk) := by
 have := set_ok c hc h hl
 unfold cH at this
 rwa [hn, nl_set hn] at this
theorem set_N (c : Cs) (hn : c.nl = true) (hc : CI c) (h : Hd) (hl : h.t.fields.length ≤ 1000000000) : DCall P 42 [.ptr 0 0, .int .u32 (h.dom : Int), tv h.t] [.box 67 [.nilm]] (.int .i64 (setErr c h)) (cH (setS c h)) := by
 have := set_ok c hc h hl
 rwa [show cH c = [.box 67 [.nilm]] by unfold cH; rw [hn]; rfl] at this
def TmplSays (d : Rd Cs) (opt : Bool) (bs : Bs) (D : Rd Cs → Bs → Int → Hp) : Prop :=
 ∃ e', ((tmplF opC d.c d.dom opt bs).2.1 = 0 → e' = 0) ∧ DCall P 102 [.ptr 1 0, .ptr 3 0, .bool opt] (D d bs 0) (.int .i64 (tmplF opC d.c d.dom opt bs).2.1) (tH { d with c := (tmplF opC d.c d.dom opt bs).1 } (tmplF opC d.c d.dom opt bs).2.2 e')

set_option maxHeartbeats 8000000 in
theorem tmpl_Ffalse (d : Rd Cs) (hn : d.c.nl = false) (hc : CI d.c) (bs : Bs) (h4 : 4 ≤ bs.length) (hbs : bs.length ≤ 1000000000) : TmplSays d false bs tF := by
 have q1 := num2 (bs := bs) (by omega) hbs
 have q2 := num2 (bs := bs.drop 2) (by rw [List.length_drop]; omega) (by rw [List.length_drop]; omega)
 rw [List.drop_drop] at q2
 have v1 := val2 bs
 have v2 := val2 (bs.drop 2)
 have q3 := withdraw_F d hn hc false (idB bs) v1
 have hb0 : (bs.drop 4).length ≤ 1000000000 := by rw [List.length_drop]; omega
 unfold TmplSays tmplF
 unfold idB cntB at *
 have q2 : DCall P _ _ (rH (bs.drop 2) 0) _ (rH (bs.drop 4) 0) := q2
 generalize bs.drop 4 = b0 at *
 generalize valB (bs.take 2) = i at *
 generalize valB ((bs.drop 2).take 2) = n at *
 generalize bs.drop 2 = b00 at *
 have w1 : IntKind.i64.wrap (i : Int) = i := wrap_i64 (by omega) (by omega)
 have w2 : IntKind.i64.wrap (n : Int) = n := wrap_i64 (by omega) (by omega)
 have q5 := fun (sc : Int) (l : List Sc) (hl : l.length ≤ 1000000000) => set_F d.c hn hc ⟨d.dom, ⟨(i : Int), sc, l⟩⟩ hl
 by_cases hn0 : n = 0
 ·subst hn0
  rw [if_pos rfl]
  refine ⟨0, fun _ => rfl, ?_⟩
  unfold tH
  rw [show ({ d with c := (withdrawF opC d.c d.dom false i).1 } : Rd Cs).c.nl = false from (nl_withdraw _ _ _).trans hn]
  generalize withdrawF opC d.c d.dom false i = wd at *
  obtain ⟨c', er⟩ := wd
  show DCall P _ _ (tF d bs 0) (.int .i64 er) (tF { d with c := c' } b0 0)
  have q3 : DCall P _ _ (dF d) (.int .i64 er) (dF { d with c := c' }) := q3
  refine DCall.of_awp tok mixed fn102 (Nat.le_of_ble_eq_true rfl) ?_
  (conv => whnf); repeat' ((with_reducible refine Box.mk ?_) <;> conv => whnf)
  refine aW [3] q1 rfl rfl rfl ?_
  (conv => whnf); repeat' ((with_reducible refine Box.mk ?_) <;> conv => whnf)
  refine aW [3] q2 rfl rfl rfl ?_
  (conv => whnf); (repeat' ((with_reducible first | refine Box.mk ?_ | refine And.intro (fun _ => ?_) (fun _ => ?_) | fail) <;> conv => whnf))
  ·rw [w1]
   refine aW [0, 1, 2, 4] q3 rfl rfl rfl ?_
   (conv => whnf); repeat' ((with_reducible refine Box.mk ?_) <;> conv => whnf)
   exact weak_ren_to [(0, true), (1, true), (2, true), (3, true), (4, true)] rfl rfl rfl ⟨rfl, trivial⟩
  all_goals exact absurd w2 (by assumption)
 rw [if_neg hn0]
 have m1 : ∀ x, decide (n ≤ 64) = x → DCall P 44 [.ptr 0 0, .bool x] (rH b0 0) (mkRes []) (rH b0 (mustE 0 (decide (n ≤ 64)))) := fun x hx => by subst hx; exact rMust_ok b0 0 _
 unfold scopeF
 rw [cond_false]
 clear q3
 generalize mustE 0 (decide (n ≤ 64)) = e4 at *
 dsimp only
 obtain ⟨z, hz⟩ : ∃ z, z = specsF n b0 e4 := ⟨_, rfl⟩
 have hz0 : preS [] (specsF (n - 0) b0 e4) = z := by rw [hz]; exact preS_nil _
 rw [← hz]
 clear hz
 have q5 := q5 (((0 : Nat) : Nat) : Int)
 obtain ⟨fs, b5, e5⟩ := z
 dsimp only at hz0 ⊢
 refine ⟨e5, fun h => by
  by_cases h5 : e5 = 0
  ·exact h5
  ·rw [if_pos h5] at h; exact h, ?_⟩
 have fin1 : e5 ≠ 0 → (if e5 ≠ 0 then (d.c, e5, b5) else (opC.set d.c ⟨d.dom, ⟨(i : Int), (((0 : Nat) : Nat) : Int), fs⟩⟩, opC.setErr d.c ⟨d.dom, ⟨(i : Int), (((0 : Nat) : Nat) : Int), fs⟩⟩, b5)) = (d.c, e5, b5) := fun h => if_pos h
 have fin2 : e5 = 0 → (if e5 ≠ 0 then (d.c, e5, b5) else (opC.set d.c ⟨d.dom, ⟨(i : Int), (((0 : Nat) : Nat) : Int), fs⟩⟩, opC.setErr d.c ⟨d.dom, ⟨(i : Int), (((0 : Nat) : Nat) : Int), fs⟩⟩, b5)) = (setS d.c ⟨d.dom, ⟨(i : Int), (((0 : Nat) : Nat) : Int), fs⟩⟩, setErr d.c ⟨d.dom, ⟨(i : Int), (((0 : Nat) : Nat) : Int), fs⟩⟩, b5) := fun h => if_neg (fun h2 => h2 h)
 generalize (if e5 ≠ 0 then (d.c, e5, b5) else (opC.set d.c ⟨d.dom, ⟨(i : Int), (((0 : Nat) : Nat) : Int), fs⟩⟩, opC.setErr d.c ⟨d.dom, ⟨(i : Int), (((0 : Nat) : Nat) : Int), fs⟩⟩, b5)) = fin at *
 obtain ⟨c1, er, b6⟩ := fin
 dsimp only
 show DCall P _ _ (tF d bs 0) _ _
 refine DCall.of_awp tok mixed fn102 (Nat.le_of_ble_eq_true rfl) ?_
 (conv => whnf); repeat' ((with_reducible refine Box.mk ?_) <;> conv => whnf)
 refine aW [3] q1 rfl rfl rfl ?_
 (conv => whnf); repeat' ((with_reducible refine Box.mk ?_) <;> conv => whnf)
 refine aW [3] q2 rfl rfl rfl ?_
 (conv => whnf); (repeat' ((with_reducible first | refine Box.mk ?_ | refine And.intro (fun _ => ?_) (fun _ => ?_) | fail) <;> conv => whnf))
 ·exfalso; rename_i h; rw [w2] at h; omega
 all_goals (
  rename_i hu1 hp
  rw [w2] at hp ⊢
  rw [w1]
  first
   | (refine aW [3] (m1 true (decide_eq_true (by omega))) rfl rfl rfl ?_)
   | (refine aW [3] (m1 false (decide_eq_false (by omega))) rfl rfl rfl ?_)
  (conv => whnf); repeat' ((with_reducible refine Box.mk ?_) <;> conv => whnf))
 all_goals (
  refine aloop (fun x : Nat × List Sc × Bs × Int => x.1 ≤ n ∧ x.2.1.length = x.1 ∧ x.2.2.1.length ≤ 1000000000 ∧ preS x.2.1 (specsF (n - x.1) x.2.2.1 x.2.2.2) = (fs, b5, e5))
   (fun x => ⟨envL [(0, .ptr 1 0), (1, .ptr 3 0), (7, .ptr 5 0), (44, .int .i64 (n : Int)), (45, .int .i64 (x.1 : Int))],
    [.box 67 [.own 4], rdB d, rdR d, .box 140 [.bool true, .sl (bcl x.2.2.1), .int .i64 x.2.2.2], .map pk2 (ces d.c.es) d.c.clk, .box 58 [.int .i64 (i : Int), .int .i64 (((0 : Nat) : Nat) : Int), .own 6], .row 82 3 (scl x.2.1)]⟩)
   (fun x => n - x.1) (0, [], b0, e4) ⟨Nat.zero_le _, rfl, by assumption, hz0⟩
   (by exact weak_nilrow (H' := [.box 67 [.own 4], rdB d, rdR d, .box 140 [.bool true, .sl (bcl b0), .int .i64 e4], .map pk2 (ces d.c.es) d.c.clk, .box 58 [.int .i64 (i : Int), .int .i64 (((0 : Nat) : Nat) : Int), .own 6]]) 82 3 (by decide) ⟨.inl rfl, .inl rfl, .inl rfl, .inl rfl, .inl rfl, trivial⟩ ⟨.inl rfl, .inl rfl, .inl rfl, .inl rfl, .inl rfl, .inr ⟨rfl, .inl rfl, .inl rfl, .inr ⟨rfl, rfl⟩, trivial⟩, trivial⟩) ?_
  rintro ⟨j, l, b, e⟩ ⟨hj, hll, hbl, hz⟩
  dsimp only at hj hll hbl hz ⊢
  have q6 := rErr_ok b e
  have hsl : (scl l).length = j := by rw [scl_len]; exact hll
  by_cases hlt : j < n
  ·by_cases he : e = 0
   ·subst he
    have q7 := fRead_ok b 0 hbl
    have l7 := read_le b 0
    have hst := preS_step (l := l) (n := n - (j + 1)) (b := b)
    rw [show n - (j + 1) + 1 = n - j by omega, hz] at hst
    have hsn := scl_snoc l (readF b 0).1
    generalize readF b 0 = q at *
    obtain ⟨s, b', e'⟩ := q
    dsimp only at q7 l7 hst hsn
    (conv => whnf); (repeat' ((with_reducible first | refine Box.mk ?_ | refine And.intro (fun _ => ?_) (fun _ => ?_) | fail) <;> conv => whnf))
    rotate_left
    ·exfalso; rename_i h; have h : ¬ (j : Int) < (n : Int) := h; omega
    refine aW [3] q6 rfl rfl rfl ?_
    (conv => whnf); (repeat' ((with_reducible first | refine Box.mk ?_ | refine And.intro (fun _ => ?_) (fun _ => ?_) | fail) <;> conv => whnf))
    rotate_left
    ·exact absurd rfl (by assumption)
    refine ⟨[(3, [1]), (2003, []), (2004, [])], by kernel_rfl, ?_⟩
    (conv => whnf); repeat' ((with_reducible refine Box.mk ?_) <;> conv => whnf)
    refine aDw [3] q7 rfl rfl rfl ?_
    (conv => whnf); (repeat' ((with_reducible first | refine Box.mk ?_ | refine And.intro (fun _ => ?_) (fun _ => ?_) | refine (forceH_eq _ _).mpr ?_ | fail) <;> conv => whnf))
    (refine And.intro ?_ ?_); (focus ((conv => whnf); (repeat' first | exact trivial | ((refine And.intro ?_ ?_); (focus ((conv => whnf); (first | exact ⟨rfl, rfl⟩ | exact ⟨by decide, by decide, rfl, rfl⟩ | exact ⟨by omega, by omega, rfl, rfl⟩ | exact ⟨by (simp only [List.length_drop, List.length_take]; omega), rfl, rfl⟩ | exact ⟨_, rfl, rfl, rfl⟩ | exact ⟨by omega, _, by assumption, rfl, rfl, rfl⟩ | ((refine ACall.of_pure (by assumption) (by rfl) ?_); (refine And.intro ?_ ?_ <;> rfl))))); (conv => whnf)))))
    (conv => whnf); repeat' ((with_reducible refine Box.mk ?_) <;> conv => whnf)
    refine ⟨fun c hc => by rw [List.mem_singleton.1 hc]; exact ⟨rfl, rfl⟩, by rw [hsl]; show (_ + 1) * 24 ≤ _; omega, by rw [hsl]; show _ + 1 ≤ _; omega, ?_⟩
    (conv => whnf); repeat' ((with_reducible refine Box.mk ?_) <;> conv => whnf)
    refine ⟨(j + 1, l ++ [s], b', e'), ⟨hlt, by rw [List.length_append, hll]; rfl, by show b'.length ≤ _; omega, hst.symm⟩, by show n - (j + 1) < n - j; omega, weak_ren_to [(0, true), (1, true), (2, true), (3, true), (4, true), (5, true), (7, true)] rfl rfl ?_ ⟨rfl, rfl, rfl, rfl, wrap_nat (m := 1) (by omega), trivial⟩⟩
    rw [hsn]
    rfl
   ·rw [preS_bad he] at hz
    simp only [Prod.mk.injEq] at hz
    obtain ⟨rfl, rfl, rfl⟩ := hz
    have fin := fin1 he
    simp only [Prod.mk.injEq] at fin
    obtain ⟨rfl, rfl, rfl⟩ := fin
    (conv => whnf); (repeat' ((with_reducible first | refine Box.mk ?_ | refine And.intro (fun _ => ?_) (fun _ => ?_) | fail) <;> conv => whnf))
    rotate_left
    ·exfalso; rename_i h; have h : ¬ (j : Int) < (n : Int) := h; omega
    refine aW [3] q6 rfl rfl rfl ?_
    (conv => whnf); (repeat' ((with_reducible first | refine Box.mk ?_ | refine And.intro (fun _ => ?_) (fun _ => ?_) | fail) <;> conv => whnf))
    ·exact absurd (by assumption) he
    refine aW [3] q6 rfl rfl rfl ?_
    (conv => whnf); (repeat' ((with_reducible first | refine Box.mk ?_ | refine And.intro (fun _ => ?_) (fun _ => ?_) | fail) <;> conv => whnf))
    ·exact absurd (by assumption) he
    unfold tH
    rw [show ({ d with c := d.c } : Rd Cs).c.nl = false from hn]
    exact weak_ren_to [(0, true), (1, true), (2, true), (3, true), (4, true)] rfl rfl rfl ⟨rfl, trivial⟩
  ·have hjn : j = n := by omega
   subst hjn
   rw [Nat.sub_self, preS_zero] at hz
   simp only [Prod.mk.injEq] at hz
   obtain ⟨rfl, rfl, rfl⟩ := hz
   by_cases he : e = 0
   ·subst he
    have fin := fin2 rfl
    simp only [Prod.mk.injEq] at fin
    obtain ⟨rfl, rfl, rfl⟩ := fin
    have q5 := q5 l (by omega)
    have q5 : DCall P _ [.ptr 0 0, .int .u32 (d.dom : Int), .agg [.int .i64 (i : Int), .int .i64 (((0 : Nat) : Nat) : Int), .sl (scl l)]] _ _ _ := q5
    have hnl := fun h => nl_set (c := d.c) h ⟨d.dom, ⟨(i : Int), (((0 : Nat) : Nat) : Int), l⟩⟩
    generalize setErr d.c ⟨d.dom, ⟨(i : Int), (((0 : Nat) : Nat) : Int), l⟩⟩ = er at *
    generalize setS d.c ⟨d.dom, ⟨(i : Int), (((0 : Nat) : Nat) : Int), l⟩⟩ = c1 at *
    (conv => whnf); (repeat' ((with_reducible first | refine Box.mk ?_ | refine And.intro (fun _ => ?_) (fun _ => ?_) | fail) <;> conv => whnf))
    ·exfalso; rename_i h; have h : (j : Int) < (j : Int) := h; omega
    refine aW [3] q6 rfl rfl rfl ?_
    (conv => whnf); (repeat' ((with_reducible first | refine Box.mk ?_ | refine And.intro (fun _ => ?_) (fun _ => ?_) | fail) <;> conv => whnf))
    rotate_left
    ·exact absurd rfl (by assumption)
    refine ⟨[(2010, [])], by kernel_rfl, ?_⟩
    (conv => whnf); repeat' ((with_reducible refine Box.mk ?_) <;> conv => whnf)
    refine aDwC 6 [0, 4] [.ptr 0 0, .int .u32 (d.dom : Int), .agg [.int .i64 (i : Int), .int .i64 (((0 : Nat) : Nat) : Int), .sl (scl l)]] q5 rfl rfl rfl ⟨rfl, rfl, rfl, trivial⟩ rfl rfl rfl ?_

    (conv => whnf); repeat' ((with_reducible refine Box.mk ?_) <;> conv => whnf)
    unfold tH
    rw [show ({ d with c := c1 } : Rd Cs).c.nl = false from hnl hn]
    exact weak_ren_to [(0, true), (1, true), (2, true), (3, true), (4, true)] rfl rfl rfl ⟨rfl, trivial⟩
   ·have fin := fin1 he
    simp only [Prod.mk.injEq] at fin
    obtain ⟨rfl, rfl, rfl⟩ := fin
    (conv => whnf); (repeat' ((with_reducible first | refine Box.mk ?_ | refine And.intro (fun _ => ?_) (fun _ => ?_) | fail) <;> conv => whnf))
    ·exfalso; rename_i h; have h : (j : Int) < (j : Int) := h; omega
    refine aW [3] q6 rfl rfl rfl ?_
    (conv => whnf); (repeat' ((with_reducible first | refine Box.mk ?_ | refine And.intro (fun _ => ?_) (fun _ => ?_) | fail) <;> conv => whnf))
    ·exact absurd (by assumption) he
    unfold tH
    rw [show ({ d with c := d.c } : Rd Cs).c.nl = false from hn]
    exact weak_ren_to [(0, true), (1, true), (2, true), (3, true), (4, true)] rfl rfl rfl ⟨rfl, trivial⟩)

set_option maxHeartbeats 8000000 in
theorem tmpl_Ftrue (d : Rd Cs) (hn : d.c.nl = false) (hc : CI d.c) (bs : Bs) (h4 : 4 ≤ bs.length) (hbs : bs.length ≤ 1000000000) : TmplSays d true bs tF := by
 have q1 := num2 (bs := bs) (by omega) hbs
 have q2 := num2 (bs := bs.drop 2) (by rw [List.length_drop]; omega) (by rw [List.length_drop]; omega)
 rw [List.drop_drop] at q2
 have v1 := val2 bs
 have v2 := val2 (bs.drop 2)
 have q3 := withdraw_F d hn hc true (idB bs) v1
 have hb0 : (bs.drop 4).length ≤ 1000000000 := by rw [List.length_drop]; omega
 unfold TmplSays tmplF
 unfold idB cntB at *
 have q2 : DCall P _ _ (rH (bs.drop 2) 0) _ (rH (bs.drop 4) 0) := q2
 generalize bs.drop 4 = b0 at *
 generalize valB (bs.take 2) = i at *
 generalize valB ((bs.drop 2).take 2) = n at *
 generalize bs.drop 2 = b00 at *
 have w1 : IntKind.i64.wrap (i : Int) = i := wrap_i64 (by omega) (by omega)
 have w2 : IntKind.i64.wrap (n : Int) = n := wrap_i64 (by omega) (by omega)
 have q5 := fun (sc : Int) (l : List Sc) (hl : l.length ≤ 1000000000) => set_F d.c hn hc ⟨d.dom, ⟨(i : Int), sc, l⟩⟩ hl
 by_cases hn0 : n = 0
 ·subst hn0
  rw [if_pos rfl]
  refine ⟨0, fun _ => rfl, ?_⟩
  unfold tH
  rw [show ({ d with c := (withdrawF opC d.c d.dom true i).1 } : Rd Cs).c.nl = false from (nl_withdraw _ _ _).trans hn]
  generalize withdrawF opC d.c d.dom true i = wd at *
  obtain ⟨c', er⟩ := wd
  show DCall P _ _ (tF d bs 0) (.int .i64 er) (tF { d with c := c' } b0 0)
  have q3 : DCall P _ _ (dF d) (.int .i64 er) (dF { d with c := c' }) := q3
  refine DCall.of_awp tok mixed fn102 (Nat.le_of_ble_eq_true rfl) ?_
  (conv => whnf); repeat' ((with_reducible refine Box.mk ?_) <;> conv => whnf)
  refine aW [3] q1 rfl rfl rfl ?_
  (conv => whnf); repeat' ((with_reducible refine Box.mk ?_) <;> conv => whnf)
  refine aW [3] q2 rfl rfl rfl ?_
  (conv => whnf); (repeat' ((with_reducible first | refine Box.mk ?_ | refine And.intro (fun _ => ?_) (fun _ => ?_) | fail) <;> conv => whnf))
  ·rw [w1]
   refine aW [0, 1, 2, 4] q3 rfl rfl rfl ?_
   (conv => whnf); repeat' ((with_reducible refine Box.mk ?_) <;> conv => whnf)
   exact weak_ren_to [(0, true), (1, true), (2, true), (3, true), (4, true)] rfl rfl rfl ⟨rfl, trivial⟩
  all_goals exact absurd w2 (by assumption)
 rw [if_neg hn0]
 have m1 : ∀ x, decide (n ≤ 64) = x → DCall P 44 [.ptr 0 0, .bool x] (rH b0 0) (mkRes []) (rH b0 (mustE 0 (decide (n ≤ 64)))) := fun x hx => by subst hx; exact rMust_ok b0 0 _
 unfold scopeF
 rw [cond_true]
 clear q3
 generalize mustE 0 (decide (n ≤ 64)) = e4 at *
 have q4 := rNum_ok b0 e4 2 hb0
 have l4 := raw_rest 2 b0 e4
 have v4 := raw_val 2 65536 b0 e4 rfl
 rw [show ((szN 2 : Nat) : Int) = 2 from rfl] at q4
 rw [show (((2 : Nat) : Nat) : Int) = 2 from rfl] at v4
 generalize rawF 2 b0 e4 = z4 at *
 obtain ⟨x4, b4, e6⟩ := z4
 dsimp only at q4 l4 v4 ⊢
 have m2 : ∀ x, decide (1 ≤ valB x4 ∧ valB x4 ≤ n) = x → DCall P 44 [.ptr 0 0, .bool x] (rH b4 e6) (mkRes []) (rH b4 (mustE e6 (decide (1 ≤ valB x4 ∧ valB x4 ≤ n)))) := fun x hx => by subst hx; exact rMust_ok b4 e6 _
 generalize mustE e6 (decide (1 ≤ valB x4 ∧ valB x4 ≤ n)) = e7 at *
 generalize valB x4 = sc at *
 have w4 : IntKind.i64.wrap (sc : Int) = sc := wrap_i64 (by omega) (by omega)
 have hb4 : b4.length ≤ 1000000000 := by omega
 obtain ⟨z, hz⟩ : ∃ z, z = specsF n b4 e7 := ⟨_, rfl⟩
 have hz0 : preS [] (specsF (n - 0) b4 e7) = z := by rw [hz]; exact preS_nil _
 rw [← hz]
 clear hz
 have q5 := q5 ((sc : Nat) : Int)
 obtain ⟨fs, b5, e5⟩ := z
 dsimp only at hz0 ⊢
 refine ⟨e5, fun h => by
  by_cases h5 : e5 = 0
  ·exact h5
  ·rw [if_pos h5] at h; exact h, ?_⟩
 have fin1 : e5 ≠ 0 → (if e5 ≠ 0 then (d.c, e5, b5) else (opC.set d.c ⟨d.dom, ⟨(i : Int), ((sc : Nat) : Int), fs⟩⟩, opC.setErr d.c ⟨d.dom, ⟨(i : Int), ((sc : Nat) : Int), fs⟩⟩, b5)) = (d.c, e5, b5) := fun h => if_pos h
 have fin2 : e5 = 0 → (if e5 ≠ 0 then (d.c, e5, b5) else (opC.set d.c ⟨d.dom, ⟨(i : Int), ((sc : Nat) : Int), fs⟩⟩, opC.setErr d.c ⟨d.dom, ⟨(i : Int), ((sc : Nat) : Int), fs⟩⟩, b5)) = (setS d.c ⟨d.dom, ⟨(i : Int), ((sc : Nat) : Int), fs⟩⟩, setErr d.c ⟨d.dom, ⟨(i : Int), ((sc : Nat) : Int), fs⟩⟩, b5) := fun h => if_neg (fun h2 => h2 h)
 generalize (if e5 ≠ 0 then (d.c, e5, b5) else (opC.set d.c ⟨d.dom, ⟨(i : Int), ((sc : Nat) : Int), fs⟩⟩, opC.setErr d.c ⟨d.dom, ⟨(i : Int), ((sc : Nat) : Int), fs⟩⟩, b5)) = fin at *
 obtain ⟨c1, er, b6⟩ := fin
 dsimp only
 show DCall P _ _ (tF d bs 0) _ _
 refine DCall.of_awp tok mixed fn102 (Nat.le_of_ble_eq_true rfl) ?_
 (conv => whnf); repeat' ((with_reducible refine Box.mk ?_) <;> conv => whnf)
 refine aW [3] q1 rfl rfl rfl ?_
 (conv => whnf); repeat' ((with_reducible refine Box.mk ?_) <;> conv => whnf)
 refine aW [3] q2 rfl rfl rfl ?_
 (conv => whnf); (repeat' ((with_reducible first | refine Box.mk ?_ | refine And.intro (fun _ => ?_) (fun _ => ?_) | fail) <;> conv => whnf))
 ·exfalso; rename_i h; rw [w2] at h; omega
 all_goals (
  rename_i hu1 hp
  rw [w2] at hp ⊢
  rw [w1]
  first
   | (refine aW [3] (m1 true (decide_eq_true (by omega))) rfl rfl rfl ?_)
   | (refine aW [3] (m1 false (decide_eq_false (by omega))) rfl rfl rfl ?_)
  (conv => whnf); repeat' ((with_reducible refine Box.mk ?_) <;> conv => whnf))
 all_goals (
  refine aW [3] q4 rfl rfl rfl ?_
  (conv => whnf); (repeat' ((with_reducible first | refine Box.mk ?_ | refine And.intro (fun _ => ?_) (fun _ => ?_) | fail) <;> conv => whnf)))
 all_goals (
  rw [w4]
  first
   | (refine aW [3] (m2 true (decide_eq_true (by omega))) rfl rfl rfl ?_)
   | (refine aW [3] (m2 false (decide_eq_false (by omega))) rfl rfl rfl ?_)
  (conv => whnf); repeat' ((with_reducible refine Box.mk ?_) <;> conv => whnf))
 all_goals (
  refine aloop (fun x : Nat × List Sc × Bs × Int => x.1 ≤ n ∧ x.2.1.length = x.1 ∧ x.2.2.1.length ≤ 1000000000 ∧ preS x.2.1 (specsF (n - x.1) x.2.2.1 x.2.2.2) = (fs, b5, e5))
   (fun x => ⟨envL [(0, .ptr 1 0), (1, .ptr 3 0), (7, .ptr 5 0), (44, .int .i64 (n : Int)), (45, .int .i64 (x.1 : Int))],
    [.box 67 [.own 4], rdB d, rdR d, .box 140 [.bool true, .sl (bcl x.2.2.1), .int .i64 x.2.2.2], .map pk2 (ces d.c.es) d.c.clk, .box 58 [.int .i64 (i : Int), .int .i64 ((sc : Nat) : Int), .own 6], .row 82 3 (scl x.2.1)]⟩)
   (fun x => n - x.1) (0, [], b4, e7) ⟨Nat.zero_le _, rfl, by assumption, hz0⟩
   (by exact weak_nilrow (H' := [.box 67 [.own 4], rdB d, rdR d, .box 140 [.bool true, .sl (bcl b4), .int .i64 e7], .map pk2 (ces d.c.es) d.c.clk, .box 58 [.int .i64 (i : Int), .int .i64 ((sc : Nat) : Int), .own 6]]) 82 3 (by decide) ⟨.inl rfl, .inl rfl, .inl rfl, .inl rfl, .inl rfl, trivial⟩ ⟨.inl rfl, .inl rfl, .inl rfl, .inl rfl, .inl rfl, .inr ⟨rfl, .inl rfl, .inl rfl, .inr ⟨rfl, rfl⟩, trivial⟩, trivial⟩) ?_
  rintro ⟨j, l, b, e⟩ ⟨hj, hll, hbl, hz⟩
  dsimp only at hj hll hbl hz ⊢
  have q6 := rErr_ok b e
  have hsl : (scl l).length = j := by rw [scl_len]; exact hll
  by_cases hlt : j < n
  ·by_cases he : e = 0
   ·subst he
    have q7 := fRead_ok b 0 hbl
    have l7 := read_le b 0
    have hst := preS_step (l := l) (n := n - (j + 1)) (b := b)
    rw [show n - (j + 1) + 1 = n - j by omega, hz] at hst
    have hsn := scl_snoc l (readF b 0).1
    generalize readF b 0 = q at *
    obtain ⟨s, b', e'⟩ := q
    dsimp only at q7 l7 hst hsn
    (conv => whnf); (repeat' ((with_reducible first | refine Box.mk ?_ | refine And.intro (fun _ => ?_) (fun _ => ?_) | fail) <;> conv => whnf))
    rotate_left
    ·exfalso; rename_i h; have h : ¬ (j : Int) < (n : Int) := h; omega
    refine aW [3] q6 rfl rfl rfl ?_
    (conv => whnf); (repeat' ((with_reducible first | refine Box.mk ?_ | refine And.intro (fun _ => ?_) (fun _ => ?_) | fail) <;> conv => whnf))
    rotate_left
    ·exact absurd rfl (by assumption)
    refine ⟨[(3, [1]), (2003, []), (2004, [])], by kernel_rfl, ?_⟩
    (conv => whnf); repeat' ((with_reducible refine Box.mk ?_) <;> conv => whnf)
    refine aDw [3] q7 rfl rfl rfl ?_
    (conv => whnf); (repeat' ((with_reducible first | refine Box.mk ?_ | refine And.intro (fun _ => ?_) (fun _ => ?_) | refine (forceH_eq _ _).mpr ?_ | fail) <;> conv => whnf))
    (refine And.intro ?_ ?_); (focus ((conv => whnf); (repeat' first | exact trivial | ((refine And.intro ?_ ?_); (focus ((conv => whnf); (first | exact ⟨rfl, rfl⟩ | exact ⟨by decide, by decide, rfl, rfl⟩ | exact ⟨by omega, by omega, rfl, rfl⟩ | exact ⟨by (simp only [List.length_drop, List.length_take]; omega), rfl, rfl⟩ | exact ⟨_, rfl, rfl, rfl⟩ | exact ⟨by omega, _, by assumption, rfl, rfl, rfl⟩ | ((refine ACall.of_pure (by assumption) (by rfl) ?_); (refine And.intro ?_ ?_ <;> rfl))))); (conv => whnf)))))
    (conv => whnf); repeat' ((with_reducible refine Box.mk ?_) <;> conv => whnf)
    refine ⟨fun c hc => by rw [List.mem_singleton.1 hc]; exact ⟨rfl, rfl⟩, by rw [hsl]; show (_ + 1) * 24 ≤ _; omega, by rw [hsl]; show _ + 1 ≤ _; omega, ?_⟩
    (conv => whnf); repeat' ((with_reducible refine Box.mk ?_) <;> conv => whnf)
    refine ⟨(j + 1, l ++ [s], b', e'), ⟨hlt, by rw [List.length_append, hll]; rfl, by show b'.length ≤ _; omega, hst.symm⟩, by show n - (j + 1) < n - j; omega, weak_ren_to [(0, true), (1, true), (2, true), (3, true), (4, true), (5, true), (7, true)] rfl rfl ?_ ⟨rfl, rfl, rfl, rfl, wrap_nat (m := 1) (by omega), trivial⟩⟩
    rw [hsn]
    rfl
   ·rw [preS_bad he] at hz
    simp only [Prod.mk.injEq] at hz
    obtain ⟨rfl, rfl, rfl⟩ := hz
    have fin := fin1 he
    simp only [Prod.mk.injEq] at fin
    obtain ⟨rfl, rfl, rfl⟩ := fin
    (conv => whnf); (repeat' ((with_reducible first | refine Box.mk ?_ | refine And.intro (fun _ => ?_) (fun _ => ?_) | fail) <;> conv => whnf))
    rotate_left
    ·exfalso; rename_i h; have h : ¬ (j : Int) < (n : Int) := h; omega
    refine aW [3] q6 rfl rfl rfl ?_
    (conv => whnf); (repeat' ((with_reducible first | refine Box.mk ?_ | refine And.intro (fun _ => ?_) (fun _ => ?_) | fail) <;> conv => whnf))
    ·exact absurd (by assumption) he
    refine aW [3] q6 rfl rfl rfl ?_
    (conv => whnf); (repeat' ((with_reducible first | refine Box.mk ?_ | refine And.intro (fun _ => ?_) (fun _ => ?_) | fail) <;> conv => whnf))
    ·exact absurd (by assumption) he
    unfold tH
    rw [show ({ d with c := d.c } : Rd Cs).c.nl = false from hn]
    exact weak_ren_to [(0, true), (1, true), (2, true), (3, true), (4, true)] rfl rfl rfl ⟨rfl, trivial⟩
  ·have hjn : j = n := by omega
   subst hjn
   rw [Nat.sub_self, preS_zero] at hz
   simp only [Prod.mk.injEq] at hz
   obtain ⟨rfl, rfl, rfl⟩ := hz
   by_cases he : e = 0
   ·subst he
    have fin := fin2 rfl
    simp only [Prod.mk.injEq] at fin
    obtain ⟨rfl, rfl, rfl⟩ := fin
    have q5 := q5 l (by omega)
    have q5 : DCall P _ [.ptr 0 0, .int .u32 (d.dom : Int), .agg [.int .i64 (i : Int), .int .i64 ((sc : Nat) : Int), .sl (scl l)]] _ _ _ := q5
    have hnl := fun h => nl_set (c := d.c) h ⟨d.dom, ⟨(i : Int), ((sc : Nat) : Int), l⟩⟩
    generalize setErr d.c ⟨d.dom, ⟨(i : Int), ((sc : Nat) : Int), l⟩⟩ = er at *
    generalize setS d.c ⟨d.dom, ⟨(i : Int), ((sc : Nat) : Int), l⟩⟩ = c1 at *
    (conv => whnf); (repeat' ((with_reducible first | refine Box.mk ?_ | refine And.intro (fun _ => ?_) (fun _ => ?_) | fail) <;> conv => whnf))
    ·exfalso; rename_i h; have h : (j : Int) < (j : Int) := h; omega
    refine aW [3] q6 rfl rfl rfl ?_
    (conv => whnf); (repeat' ((with_reducible first | refine Box.mk ?_ | refine And.intro (fun _ => ?_) (fun _ => ?_) | fail) <;> conv => whnf))
    rotate_left
    ·exact absurd rfl (by assumption)
    refine ⟨[(2010, [])], by kernel_rfl, ?_⟩
    (conv => whnf); repeat' ((with_reducible refine Box.mk ?_) <;> conv => whnf)
    refine aDwC 6 [0, 4] [.ptr 0 0, .int .u32 (d.dom : Int), .agg [.int .i64 (i : Int), .int .i64 ((sc : Nat) : Int), .sl (scl l)]] q5 rfl rfl rfl ⟨rfl, rfl, rfl, trivial⟩ rfl rfl rfl ?_

    (conv => whnf); repeat' ((with_reducible refine Box.mk ?_) <;> conv => whnf)
    unfold tH
    rw [show ({ d with c := c1 } : Rd Cs).c.nl = false from hnl hn]
    exact weak_ren_to [(0, true), (1, true), (2, true), (3, true), (4, true)] rfl rfl rfl ⟨rfl, trivial⟩
   ·have fin := fin1 he
    simp only [Prod.mk.injEq] at fin
    obtain ⟨rfl, rfl, rfl⟩ := fin
    (conv => whnf); (repeat' ((with_reducible first | refine Box.mk ?_ | refine And.intro (fun _ => ?_) (fun _ => ?_) | fail) <;> conv => whnf))
    ·exfalso; rename_i h; have h : (j : Int) < (j : Int) := h; omega
    refine aW [3] q6 rfl rfl rfl ?_
    (conv => whnf); (repeat' ((with_reducible first | refine Box.mk ?_ | refine And.intro (fun _ => ?_) (fun _ => ?_) | fail) <;> conv => whnf))
    ·exact absurd (by assumption) he
    unfold tH
    rw [show ({ d with c := d.c } : Rd Cs).c.nl = false from hn]
    exact weak_ren_to [(0, true), (1, true), (2, true), (3, true), (4, true)] rfl rfl rfl ⟨rfl, trivial⟩)

set_option maxHeartbeats 8000000 in
theorem tmpl_Nfalse (d : Rd Cs) (hn : d.c.nl = true) (hc : CI d.c) (bs : Bs) (h4 : 4 ≤ bs.length) (hbs : bs.length ≤ 1000000000) : TmplSays d false bs tN := by
 have q1 := num2 (bs := bs) (by omega) hbs
 have q2 := num2 (bs := bs.drop 2) (by rw [List.length_drop]; omega) (by rw [List.length_drop]; omega)
 rw [List.drop_drop] at q2
 have v1 := val2 bs
 have v2 := val2 (bs.drop 2)
 have q3 := withdraw_N d hn hc false (idB bs) v1
 have hb0 : (bs.drop 4).length ≤ 1000000000 := by rw [List.length_drop]; omega
 unfold TmplSays tmplF
 unfold idB cntB at *
 have q2 : DCall P _ _ (rH (bs.drop 2) 0) _ (rH (bs.drop 4) 0) := q2
 generalize bs.drop 4 = b0 at *
 generalize valB (bs.take 2) = i at *
 generalize valB ((bs.drop 2).take 2) = n at *
 generalize bs.drop 2 = b00 at *
 have w1 : IntKind.i64.wrap (i : Int) = i := wrap_i64 (by omega) (by omega)
 have w2 : IntKind.i64.wrap (n : Int) = n := wrap_i64 (by omega) (by omega)
 have q5 := fun (sc : Int) (l : List Sc) (hl : l.length ≤ 1000000000) => set_N d.c hn hc ⟨d.dom, ⟨(i : Int), sc, l⟩⟩ hl
 by_cases hn0 : n = 0
 ·subst hn0
  rw [if_pos rfl]
  refine ⟨0, fun _ => rfl, ?_⟩
  unfold tH
  rw [show ({ d with c := (withdrawF opC d.c d.dom false i).1 } : Rd Cs).c.nl = true from (nl_withdraw _ _ _).trans hn]
  generalize withdrawF opC d.c d.dom false i = wd at *
  obtain ⟨c', er⟩ := wd
  show DCall P _ _ (tN d bs 0) (.int .i64 er) (tN { d with c := c' } b0 0)
  have q3 : DCall P _ _ (dN d) (.int .i64 er) (dN { d with c := c' }) := q3
  refine DCall.of_awp tok mixed fn102 (Nat.le_of_ble_eq_true rfl) ?_
  (conv => whnf); repeat' ((with_reducible refine Box.mk ?_) <;> conv => whnf)
  refine aW [3] q1 rfl rfl rfl ?_
  (conv => whnf); repeat' ((with_reducible refine Box.mk ?_) <;> conv => whnf)
  refine aW [3] q2 rfl rfl rfl ?_
  (conv => whnf); (repeat' ((with_reducible first | refine Box.mk ?_ | refine And.intro (fun _ => ?_) (fun _ => ?_) | fail) <;> conv => whnf))
  ·rw [w1]
   refine aW [0, 1, 2] q3 rfl rfl rfl ?_
   (conv => whnf); repeat' ((with_reducible refine Box.mk ?_) <;> conv => whnf)
   exact weak_ren_to [(0, true), (1, true), (2, true), (3, true)] rfl rfl rfl ⟨rfl, trivial⟩
  all_goals exact absurd w2 (by assumption)
 rw [if_neg hn0]
 have m1 : ∀ x, decide (n ≤ 64) = x → DCall P 44 [.ptr 0 0, .bool x] (rH b0 0) (mkRes []) (rH b0 (mustE 0 (decide (n ≤ 64)))) := fun x hx => by subst hx; exact rMust_ok b0 0 _
 unfold scopeF
 rw [cond_false]
 clear q3
 generalize mustE 0 (decide (n ≤ 64)) = e4 at *
 dsimp only
 obtain ⟨z, hz⟩ : ∃ z, z = specsF n b0 e4 := ⟨_, rfl⟩
 have hz0 : preS [] (specsF (n - 0) b0 e4) = z := by rw [hz]; exact preS_nil _
 rw [← hz]
 clear hz
 have q5 := q5 (((0 : Nat) : Nat) : Int)
 obtain ⟨fs, b5, e5⟩ := z
 dsimp only at hz0 ⊢
 refine ⟨e5, fun h => by
  by_cases h5 : e5 = 0
  ·exact h5
  ·rw [if_pos h5] at h; exact h, ?_⟩
 have fin1 : e5 ≠ 0 → (if e5 ≠ 0 then (d.c, e5, b5) else (opC.set d.c ⟨d.dom, ⟨(i : Int), (((0 : Nat) : Nat) : Int), fs⟩⟩, opC.setErr d.c ⟨d.dom, ⟨(i : Int), (((0 : Nat) : Nat) : Int), fs⟩⟩, b5)) = (d.c, e5, b5) := fun h => if_pos h
 have fin2 : e5 = 0 → (if e5 ≠ 0 then (d.c, e5, b5) else (opC.set d.c ⟨d.dom, ⟨(i : Int), (((0 : Nat) : Nat) : Int), fs⟩⟩, opC.setErr d.c ⟨d.dom, ⟨(i : Int), (((0 : Nat) : Nat) : Int), fs⟩⟩, b5)) = (setS d.c ⟨d.dom, ⟨(i : Int), (((0 : Nat) : Nat) : Int), fs⟩⟩, setErr d.c ⟨d.dom, ⟨(i : Int), (((0 : Nat) : Nat) : Int), fs⟩⟩, b5) := fun h => if_neg (fun h2 => h2 h)
 generalize (if e5 ≠ 0 then (d.c, e5, b5) else (opC.set d.c ⟨d.dom, ⟨(i : Int), (((0 : Nat) : Nat) : Int), fs⟩⟩, opC.setErr d.c ⟨d.dom, ⟨(i : Int), (((0 : Nat) : Nat) : Int), fs⟩⟩, b5)) = fin at *
 obtain ⟨c1, er, b6⟩ := fin
 dsimp only
 show DCall P _ _ (tN d bs 0) _ _
 refine DCall.of_awp tok mixed fn102 (Nat.le_of_ble_eq_true rfl) ?_
 (conv => whnf); repeat' ((with_reducible refine Box.mk ?_) <;> conv => whnf)
 refine aW [3] q1 rfl rfl rfl ?_
 (conv => whnf); repeat' ((with_reducible refine Box.mk ?_) <;> conv => whnf)
 refine aW [3] q2 rfl rfl rfl ?_
 (conv => whnf); (repeat' ((with_reducible first | refine Box.mk ?_ | refine And.intro (fun _ => ?_) (fun _ => ?_) | fail) <;> conv => whnf))
 ·exfalso; rename_i h; rw [w2] at h; omega
 all_goals (
  rename_i hu1 hp
  rw [w2] at hp ⊢
  rw [w1]
  first
   | (refine aW [3] (m1 true (decide_eq_true (by omega))) rfl rfl rfl ?_)
   | (refine aW [3] (m1 false (decide_eq_false (by omega))) rfl rfl rfl ?_)
  (conv => whnf); repeat' ((with_reducible refine Box.mk ?_) <;> conv => whnf))
 all_goals (
  refine aloop (fun x : Nat × List Sc × Bs × Int => x.1 ≤ n ∧ x.2.1.length = x.1 ∧ x.2.2.1.length ≤ 1000000000 ∧ preS x.2.1 (specsF (n - x.1) x.2.2.1 x.2.2.2) = (fs, b5, e5))
   (fun x => ⟨envL [(0, .ptr 1 0), (1, .ptr 3 0), (7, .ptr 4 0), (44, .int .i64 (n : Int)), (45, .int .i64 (x.1 : Int))],
    [.box 67 [.nilm], rdB d, rdR d, .box 140 [.bool true, .sl (bcl x.2.2.1), .int .i64 x.2.2.2], .box 58 [.int .i64 (i : Int), .int .i64 (((0 : Nat) : Nat) : Int), .own 5], .row 82 3 (scl x.2.1)]⟩)
   (fun x => n - x.1) (0, [], b0, e4) ⟨Nat.zero_le _, rfl, by assumption, hz0⟩
   (by exact weak_nilrow (H' := [.box 67 [.nilm], rdB d, rdR d, .box 140 [.bool true, .sl (bcl b0), .int .i64 e4], .box 58 [.int .i64 (i : Int), .int .i64 (((0 : Nat) : Nat) : Int), .own 5]]) 82 3 (by decide) ⟨.inl rfl, .inl rfl, .inl rfl, .inl rfl, .inl rfl, trivial⟩ ⟨.inl rfl, .inl rfl, .inl rfl, .inl rfl, .inr ⟨rfl, .inl rfl, .inl rfl, .inr ⟨rfl, rfl⟩, trivial⟩, trivial⟩) ?_
  rintro ⟨j, l, b, e⟩ ⟨hj, hll, hbl, hz⟩
  dsimp only at hj hll hbl hz ⊢
  have q6 := rErr_ok b e
  have hsl : (scl l).length = j := by rw [scl_len]; exact hll
  by_cases hlt : j < n
  ·by_cases he : e = 0
   ·subst he
    have q7 := fRead_ok b 0 hbl
    have l7 := read_le b 0
    have hst := preS_step (l := l) (n := n - (j + 1)) (b := b)
    rw [show n - (j + 1) + 1 = n - j by omega, hz] at hst
    have hsn := scl_snoc l (readF b 0).1
    generalize readF b 0 = q at *
    obtain ⟨s, b', e'⟩ := q
    dsimp only at q7 l7 hst hsn
    (conv => whnf); (repeat' ((with_reducible first | refine Box.mk ?_ | refine And.intro (fun _ => ?_) (fun _ => ?_) | fail) <;> conv => whnf))
    rotate_left
    ·exfalso; rename_i h; have h : ¬ (j : Int) < (n : Int) := h; omega
    refine aW [3] q6 rfl rfl rfl ?_
    (conv => whnf); (repeat' ((with_reducible first | refine Box.mk ?_ | refine And.intro (fun _ => ?_) (fun _ => ?_) | fail) <;> conv => whnf))
    rotate_left
    ·exact absurd rfl (by assumption)
    refine ⟨[(3, [1]), (2003, []), (2004, [])], by kernel_rfl, ?_⟩
    (conv => whnf); repeat' ((with_reducible refine Box.mk ?_) <;> conv => whnf)
    refine aDw [3] q7 rfl rfl rfl ?_
    (conv => whnf); (repeat' ((with_reducible first | refine Box.mk ?_ | refine And.intro (fun _ => ?_) (fun _ => ?_) | refine (forceH_eq _ _).mpr ?_ | fail) <;> conv => whnf))
    (refine And.intro ?_ ?_); (focus ((conv => whnf); (repeat' first | exact trivial | ((refine And.intro ?_ ?_); (focus ((conv => whnf); (first | exact ⟨rfl, rfl⟩ | exact ⟨by decide, by decide, rfl, rfl⟩ | exact ⟨by omega, by omega, rfl, rfl⟩ | exact ⟨by (simp only [List.length_drop, List.length_take]; omega), rfl, rfl⟩ | exact ⟨_, rfl, rfl, rfl⟩ | exact ⟨by omega, _, by assumption, rfl, rfl, rfl⟩ | ((refine ACall.of_pure (by assumption) (by rfl) ?_); (refine And.intro ?_ ?_ <;> rfl))))); (conv => whnf)))))
    (conv => whnf); repeat' ((with_reducible refine Box.mk ?_) <;> conv => whnf)
    refine ⟨fun c hc => by rw [List.mem_singleton.1 hc]; exact ⟨rfl, rfl⟩, by rw [hsl]; show (_ + 1) * 24 ≤ _; omega, by rw [hsl]; show _ + 1 ≤ _; omega, ?_⟩
    (conv => whnf); repeat' ((with_reducible refine Box.mk ?_) <;> conv => whnf)
    refine ⟨(j + 1, l ++ [s], b', e'), ⟨hlt, by rw [List.length_append, hll]; rfl, by show b'.length ≤ _; omega, hst.symm⟩, by show n - (j + 1) < n - j; omega, weak_ren_to [(0, true), (1, true), (2, true), (3, true), (4, true), (6, true)] rfl rfl ?_ ⟨rfl, rfl, rfl, rfl, wrap_nat (m := 1) (by omega), trivial⟩⟩
    rw [hsn]
    rfl
   ·rw [preS_bad he] at hz
    simp only [Prod.mk.injEq] at hz
    obtain ⟨rfl, rfl, rfl⟩ := hz
    have fin := fin1 he
    simp only [Prod.mk.injEq] at fin
    obtain ⟨rfl, rfl, rfl⟩ := fin
    (conv => whnf); (repeat' ((with_reducible first | refine Box.mk ?_ | refine And.intro (fun _ => ?_) (fun _ => ?_) | fail) <;> conv => whnf))
    rotate_left
    ·exfalso; rename_i h; have h : ¬ (j : Int) < (n : Int) := h; omega
    refine aW [3] q6 rfl rfl rfl ?_
    (conv => whnf); (repeat' ((with_reducible first | refine Box.mk ?_ | refine And.intro (fun _ => ?_) (fun _ => ?_) | fail) <;> conv => whnf))
    ·exact absurd (by assumption) he
    refine aW [3] q6 rfl rfl rfl ?_
    (conv => whnf); (repeat' ((with_reducible first | refine Box.mk ?_ | refine And.intro (fun _ => ?_) (fun _ => ?_) | fail) <;> conv => whnf))
    ·exact absurd (by assumption) he
    unfold tH
    rw [show ({ d with c := d.c } : Rd Cs).c.nl = true from hn]
    exact weak_ren_to [(0, true), (1, true), (2, true), (3, true)] rfl rfl rfl ⟨rfl, trivial⟩
  ·have hjn : j = n := by omega
   subst hjn
   rw [Nat.sub_self, preS_zero] at hz
   simp only [Prod.mk.injEq] at hz
   obtain ⟨rfl, rfl, rfl⟩ := hz
   by_cases he : e = 0
   ·subst he
    have fin := fin2 rfl
    simp only [Prod.mk.injEq] at fin
    obtain ⟨rfl, rfl, rfl⟩ := fin
    have q5 := q5 l (by omega)
    have q5 : DCall P _ [.ptr 0 0, .int .u32 (d.dom : Int), .agg [.int .i64 (i : Int), .int .i64 (((0 : Nat) : Nat) : Int), .sl (scl l)]] _ _ _ := q5
    have hnl := fun h => nl_set (c := d.c) h ⟨d.dom, ⟨(i : Int), (((0 : Nat) : Nat) : Int), l⟩⟩
    generalize setErr d.c ⟨d.dom, ⟨(i : Int), (((0 : Nat) : Nat) : Int), l⟩⟩ = er at *
    generalize setS d.c ⟨d.dom, ⟨(i : Int), (((0 : Nat) : Nat) : Int), l⟩⟩ = c1 at *
    (conv => whnf); (repeat' ((with_reducible first | refine Box.mk ?_ | refine And.intro (fun _ => ?_) (fun _ => ?_) | fail) <;> conv => whnf))
    ·exfalso; rename_i h; have h : (j : Int) < (j : Int) := h; omega
    refine aW [3] q6 rfl rfl rfl ?_
    (conv => whnf); (repeat' ((with_reducible first | refine Box.mk ?_ | refine And.intro (fun _ => ?_) (fun _ => ?_) | fail) <;> conv => whnf))
    rotate_left
    ·exact absurd rfl (by assumption)
    clear hnl hz0 fin1 fin2
    obtain ⟨nl1, es1, clk1⟩ := c1
    refine ⟨[(2010, [])], by kernel_rfl, ?_⟩
    (conv => whnf); repeat' ((with_reducible refine Box.mk ?_) <;> conv => whnf)
    cases nl1
    ·have q5 : DCall P _ _ _ _ (CHp es1 clk1) := q5
     refine aDwC 5 [0] [.ptr 0 0, .int .u32 (d.dom : Int), .agg [.int .i64 (i : Int), .int .i64 (((0 : Nat) : Nat) : Int), .sl (scl l)]] q5 rfl rfl rfl ⟨rfl, rfl, rfl, trivial⟩ rfl rfl rfl ?_

     (conv => whnf); repeat' ((with_reducible refine Box.mk ?_) <;> conv => whnf)
     exact weak_ren_to [(0, true), (1, true), (2, true), (3, true), (6, true)] rfl rfl rfl ⟨rfl, trivial⟩
    ·have q5 : DCall P _ _ _ _ [.box 67 [.nilm]] := q5
     refine aDwC 5 [0] [.ptr 0 0, .int .u32 (d.dom : Int), .agg [.int .i64 (i : Int), .int .i64 (((0 : Nat) : Nat) : Int), .sl (scl l)]] q5 rfl rfl rfl ⟨rfl, rfl, rfl, trivial⟩ rfl rfl rfl ?_

     (conv => whnf); repeat' ((with_reducible refine Box.mk ?_) <;> conv => whnf)
     exact weak_ren_to [(0, true), (1, true), (2, true), (3, true)] rfl rfl rfl ⟨rfl, trivial⟩
   ·have fin := fin1 he
    simp only [Prod.mk.injEq] at fin
    obtain ⟨rfl, rfl, rfl⟩ := fin
    (conv => whnf); (repeat' ((with_reducible first | refine Box.mk ?_ | refine And.intro (fun _ => ?_) (fun _ => ?_) | fail) <;> conv => whnf))
    ·exfalso; rename_i h; have h : (j : Int) < (j : Int) := h; omega
    refine aW [3] q6 rfl rfl rfl ?_
    (conv => whnf); (repeat' ((with_reducible first | refine Box.mk ?_ | refine And.intro (fun _ => ?_) (fun _ => ?_) | fail) <;> conv => whnf))
    ·exact absurd (by assumption) he
    unfold tH
    rw [show ({ d with c := d.c } : Rd Cs).c.nl = true from hn]
    exact weak_ren_to [(0, true), (1, true), (2, true), (3, true)] rfl rfl rfl ⟨rfl, trivial⟩)

set_option maxHeartbeats 8000000 in
theorem tmpl_Ntrue (d : Rd Cs) (hn : d.c.nl = true) (hc : CI d.c) (bs : Bs) (h4 : 4 ≤ bs.length) (hbs : bs.length ≤ 1000000000) : TmplSays d true bs tN := by
 have q1 := num2 (bs := bs) (by omega) hbs
 have q2 := num2 (bs := bs.drop 2) (by rw [List.length_drop]; omega) (by rw [List.length_drop]; omega)
 rw [List.drop_drop] at q2
 have v1 := val2 bs
 have v2 := val2 (bs.drop 2)
 have q3 := withdraw_N d hn hc true (idB bs) v1
 have hb0 : (bs.drop 4).length ≤ 1000000000 := by rw [List.length_drop]; omega
 unfold TmplSays tmplF
 unfold idB cntB at *
 have q2 : DCall P _ _ (rH (bs.drop 2) 0) _ (rH (bs.drop 4) 0) := q2
 generalize bs.drop 4 = b0 at *
 generalize valB (bs.take 2) = i at *
 generalize valB ((bs.drop 2).take 2) = n at *
 generalize bs.drop 2 = b00 at *
 have w1 : IntKind.i64.wrap (i : Int) = i := wrap_i64 (by omega) (by omega)
 have w2 : IntKind.i64.wrap (n : Int) = n := wrap_i64 (by omega) (by omega)
 have q5 := fun (sc : Int) (l : List Sc) (hl : l.length ≤ 1000000000) => set_N d.c hn hc ⟨d.dom, ⟨(i : Int), sc, l⟩⟩ hl
 by_cases hn0 : n = 0
 ·subst hn0
  rw [if_pos rfl]
  refine ⟨0, fun _ => rfl, ?_⟩
  unfold tH
  rw [show ({ d with c := (withdrawF opC d.c d.dom true i).1 } : Rd Cs).c.nl = true from (nl_withdraw _ _ _).trans hn]
  generalize withdrawF opC d.c d.dom true i = wd at *
  obtain ⟨c', er⟩ := wd
  show DCall P _ _ (tN d bs 0) (.int .i64 er) (tN { d with c := c' } b0 0)
  have q3 : DCall P _ _ (dN d) (.int .i64 er) (dN { d with c := c' }) := q3
  refine DCall.of_awp tok mixed fn102 (Nat.le_of_ble_eq_true rfl) ?_
  (conv => whnf); repeat' ((with_reducible refine Box.mk ?_) <;> conv => whnf)
  refine aW [3] q1 rfl rfl rfl ?_
  (conv => whnf); repeat' ((with_reducible refine Box.mk ?_) <;> conv => whnf)
  refine aW [3] q2 rfl rfl rfl ?_
  (conv => whnf); (repeat' ((with_reducible first | refine Box.mk ?_ | refine And.intro (fun _ => ?_) (fun _ => ?_) | fail) <;> conv => whnf))
  ·rw [w1]
   refine aW [0, 1, 2] q3 rfl rfl rfl ?_
   (conv => whnf); repeat' ((with_reducible refine Box.mk ?_) <;> conv => whnf)
   exact weak_ren_to [(0, true), (1, true), (2, true), (3, true)] rfl rfl rfl ⟨rfl, trivial⟩
  all_goals exact absurd w2 (by assumption)
 rw [if_neg hn0]
 have m1 : ∀ x, decide (n ≤ 64) = x → DCall P 44 [.ptr 0 0, .bool x] (rH b0 0) (mkRes []) (rH b0 (mustE 0 (decide (n ≤ 64)))) := fun x hx => by subst hx; exact rMust_ok b0 0 _
 unfold scopeF
 rw [cond_true]
 clear q3
 generalize mustE 0 (decide (n ≤ 64)) = e4 at *
 have q4 := rNum_ok b0 e4 2 hb0
 have l4 := raw_rest 2 b0 e4
 have v4 := raw_val 2 65536 b0 e4 rfl
 rw [show ((szN 2 : Nat) : Int) = 2 from rfl] at q4
 rw [show (((2 : Nat) : Nat) : Int) = 2 from rfl] at v4
 generalize rawF 2 b0 e4 = z4 at *
 obtain ⟨x4, b4, e6⟩ := z4
 dsimp only at q4 l4 v4 ⊢
 have m2 : ∀ x, decide (1 ≤ valB x4 ∧ valB x4 ≤ n) = x → DCall P 44 [.ptr 0 0, .bool x] (rH b4 e6) (mkRes []) (rH b4 (mustE e6 (decide (1 ≤ valB x4 ∧ valB x4 ≤ n)))) := fun x hx => by subst hx; exact rMust_ok b4 e6 _
 generalize mustE e6 (decide (1 ≤ valB x4 ∧ valB x4 ≤ n)) = e7 at *
 generalize valB x4 = sc at *
 have w4 : IntKind.i64.wrap (sc : Int) = sc := wrap_i64 (by omega) (by omega)
 have hb4 : b4.length ≤ 1000000000 := by omega
 obtain ⟨z, hz⟩ : ∃ z, z = specsF n b4 e7 := ⟨_, rfl⟩
 have hz0 : preS [] (specsF (n - 0) b4 e7) = z := by rw [hz]; exact preS_nil _
 rw [← hz]
 clear hz
 have q5 := q5 ((sc : Nat) : Int)
 obtain ⟨fs, b5, e5⟩ := z
 dsimp only at hz0 ⊢
 refine ⟨e5, fun h => by
  by_cases h5 : e5 = 0
  ·exact h5
  ·rw [if_pos h5] at h; exact h, ?_⟩
 have fin1 : e5 ≠ 0 → (if e5 ≠ 0 then (d.c, e5, b5) else (opC.set d.c ⟨d.dom, ⟨(i : Int), ((sc : Nat) : Int), fs⟩⟩, opC.setErr d.c ⟨d.dom, ⟨(i : Int), ((sc : Nat) : Int), fs⟩⟩, b5)) = (d.c, e5, b5) := fun h => if_pos h
 have fin2 : e5 = 0 → (if e5 ≠ 0 then (d.c, e5, b5) else (opC.set d.c ⟨d.dom, ⟨(i : Int), ((sc : Nat) : Int), fs⟩⟩, opC.setErr d.c ⟨d.dom, ⟨(i : Int), ((sc : Nat) : Int), fs⟩⟩, b5)) = (setS d.c ⟨d.dom, ⟨(i : Int), ((sc : Nat) : Int), fs⟩⟩, setErr d.c ⟨d.dom, ⟨(i : Int), ((sc : Nat) : Int), fs⟩⟩, b5) := fun h => if_neg (fun h2 => h2 h)
 generalize (if e5 ≠ 0 then (d.c, e5, b5) else (opC.set d.c ⟨d.dom, ⟨(i : Int), ((sc : Nat) : Int), fs⟩⟩, opC.setErr d.c ⟨d.dom, ⟨(i : Int), ((sc : Nat) : Int), fs⟩⟩, b5)) = fin at *
 obtain ⟨c1, er, b6⟩ := fin
 dsimp only
 show DCall P _ _ (tN d bs 0) _ _
 refine DCall.of_awp tok mixed fn102 (Nat.le_of_ble_eq_true rfl) ?_
 (conv => whnf); repeat' ((with_reducible refine Box.mk ?_) <;> conv => whnf)
 refine aW [3] q1 rfl rfl rfl ?_
 (conv => whnf); repeat' ((with_reducible refine Box.mk ?_) <;> conv => whnf)
 refine aW [3] q2 rfl rfl rfl ?_
 (conv => whnf); (repeat' ((with_reducible first | refine Box.mk ?_ | refine And.intro (fun _ => ?_) (fun _ => ?_) | fail) <;> conv => whnf))
 ·exfalso; rename_i h; rw [w2] at h; omega
 all_goals (
  rename_i hu1 hp
  rw [w2] at hp ⊢
  rw [w1]
  first
   | (refine aW [3] (m1 true (decide_eq_true (by omega))) rfl rfl rfl ?_)
   | (refine aW [3] (m1 false (decide_eq_false (by omega))) rfl rfl rfl ?_)
  (conv => whnf); repeat' ((with_reducible refine Box.mk ?_) <;> conv => whnf))
 all_goals (
  refine aW [3] q4 rfl rfl rfl ?_
  (conv => whnf); (repeat' ((with_reducible first | refine Box.mk ?_ | refine And.intro (fun _ => ?_) (fun _ => ?_) | fail) <;> conv => whnf)))
 all_goals (
  rw [w4]
  first
   | (refine aW [3] (m2 true (decide_eq_true (by omega))) rfl rfl rfl ?_)
   | (refine aW [3] (m2 false (decide_eq_false (by omega))) rfl rfl rfl ?_)
  (conv => whnf); repeat' ((with_reducible refine Box.mk ?_) <;> conv => whnf))
 all_goals (
  refine aloop (fun x : Nat × List Sc × Bs × Int => x.1 ≤ n ∧ x.2.1.length = x.1 ∧ x.2.2.1.length ≤ 1000000000 ∧ preS x.2.1 (specsF (n - x.1) x.2.2.1 x.2.2.2) = (fs, b5, e5))
   (fun x => ⟨envL [(0, .ptr 1 0), (1, .ptr 3 0), (7, .ptr 4 0), (44, .int .i64 (n : Int)), (45, .int .i64 (x.1 : Int))],
    [.box 67 [.nilm], rdB d, rdR d, .box 140 [.bool true, .sl (bcl x.2.2.1), .int .i64 x.2.2.2], .box 58 [.int .i64 (i : Int), .int .i64 ((sc : Nat) : Int), .own 5], .row 82 3 (scl x.2.1)]⟩)
   (fun x => n - x.1) (0, [], b4, e7) ⟨Nat.zero_le _, rfl, by assumption, hz0⟩
   (by exact weak_nilrow (H' := [.box 67 [.nilm], rdB d, rdR d, .box 140 [.bool true, .sl (bcl b4), .int .i64 e7], .box 58 [.int .i64 (i : Int), .int .i64 ((sc : Nat) : Int), .own 5]]) 82 3 (by decide) ⟨.inl rfl, .inl rfl, .inl rfl, .inl rfl, .inl rfl, trivial⟩ ⟨.inl rfl, .inl rfl, .inl rfl, .inl rfl, .inr ⟨rfl, .inl rfl, .inl rfl, .inr ⟨rfl, rfl⟩, trivial⟩, trivial⟩) ?_
  rintro ⟨j, l, b, e⟩ ⟨hj, hll, hbl, hz⟩
  dsimp only at hj hll hbl hz ⊢
  have q6 := rErr_ok b e
  have hsl : (scl l).length = j := by rw [scl_len]; exact hll
  by_cases hlt : j < n
  ·by_cases he : e = 0
   ·subst he
    have q7 := fRead_ok b 0 hbl
    have l7 := read_le b 0
    have hst := preS_step (l := l) (n := n - (j + 1)) (b := b)
    rw [show n - (j + 1) + 1 = n - j by omega, hz] at hst
    have hsn := scl_snoc l (readF b 0).1
    generalize readF b 0 = q at *
    obtain ⟨s, b', e'⟩ := q
    dsimp only at q7 l7 hst hsn
    (conv => whnf); (repeat' ((with_reducible first | refine Box.mk ?_ | refine And.intro (fun _ => ?_) (fun _ => ?_) | fail) <;> conv => whnf))
    rotate_left
    ·exfalso; rename_i h; have h : ¬ (j : Int) < (n : Int) := h; omega
    refine aW [3] q6 rfl rfl rfl ?_
    (conv => whnf); (repeat' ((with_reducible first | refine Box.mk ?_ | refine And.intro (fun _ => ?_) (fun _ => ?_) | fail) <;> conv => whnf))
    rotate_left
    ·exact absurd rfl (by assumption)
    refine ⟨[(3, [1]), (2003, []), (2004, [])], by kernel_rfl, ?_⟩
    (conv => whnf); repeat' ((with_reducible refine Box.mk ?_) <;> conv => whnf)
    refine aDw [3] q7 rfl rfl rfl ?_
    (conv => whnf); (repeat' ((with_reducible first | refine Box.mk ?_ | refine And.intro (fun _ => ?_) (fun _ => ?_) | refine (forceH_eq _ _).mpr ?_ | fail) <;> conv => whnf))
    (refine And.intro ?_ ?_); (focus ((conv => whnf); (repeat' first | exact trivial | ((refine And.intro ?_ ?_); (focus ((conv => whnf); (first | exact ⟨rfl, rfl⟩ | exact ⟨by decide, by decide, rfl, rfl⟩ | exact ⟨by omega, by omega, rfl, rfl⟩ | exact ⟨by (simp only [List.length_drop, List.length_take]; omega), rfl, rfl⟩ | exact ⟨_, rfl, rfl, rfl⟩ | exact ⟨by omega, _, by assumption, rfl, rfl, rfl⟩ | ((refine ACall.of_pure (by assumption) (by rfl) ?_); (refine And.intro ?_ ?_ <;> rfl))))); (conv => whnf)))))
    (conv => whnf); repeat' ((with_reducible refine Box.mk ?_) <;> conv => whnf)
    refine ⟨fun c hc => by rw [List.mem_singleton.1 hc]; exact ⟨rfl, rfl⟩, by rw [hsl]; show (_ + 1) * 24 ≤ _; omega, by rw [hsl]; show _ + 1 ≤ _; omega, ?_⟩
    (conv => whnf); repeat' ((with_reducible refine Box.mk ?_) <;> conv => whnf)
    refine ⟨(j + 1, l ++ [s], b', e'), ⟨hlt, by rw [List.length_append, hll]; rfl, by show b'.length ≤ _; omega, hst.symm⟩, by show n - (j + 1) < n - j; omega, weak_ren_to [(0, true), (1, true), (2, true), (3, true), (4, true), (6, true)] rfl rfl ?_ ⟨rfl, rfl, rfl, rfl, wrap_nat (m := 1) (by omega), trivial⟩⟩
    rw [hsn]
    rfl
   ·rw [preS_bad he] at hz
    simp only [Prod.mk.injEq] at hz
    obtain ⟨rfl, rfl, rfl⟩ := hz
    have fin := fin1 he
    simp only [Prod.mk.injEq] at fin
    obtain ⟨rfl, rfl, rfl⟩ := fin
    (conv => whnf); (repeat' ((with_reducible first | refine Box.mk ?_ | refine And.intro (fun _ => ?_) (fun _ => ?_) | fail) <;> conv => whnf))
    rotate_left
    ·exfalso; rename_i h; have h : ¬ (j : Int) < (n : Int) := h; omega
    refine aW [3] q6 rfl rfl rfl ?_
    (conv => whnf); (repeat' ((with_reducible first | refine Box.mk ?_ | refine And.intro (fun _ => ?_) (fun _ => ?_) | fail) <;> conv => whnf))
    ·exact absurd (by assumption) he
    refine aW [3] q6 rfl rfl rfl ?_
    (conv => whnf); (repeat' ((with_reducible first | refine Box.mk ?_ | refine And.intro (fun _ => ?_) (fun _ => ?_) | fail) <;> conv => whnf))
    ·exact absurd (by assumption) he
    unfold tH
    rw [show ({ d with c := d.c } : Rd Cs).c.nl = true from hn]
    exact weak_ren_to [(0, true), (1, true), (2, true), (3, true)] rfl rfl rfl ⟨rfl, trivial⟩
  ·have hjn : j = n := by omega
   subst hjn
   rw [Nat.sub_self, preS_zero] at hz
   simp only [Prod.mk.injEq] at hz
   obtain ⟨rfl, rfl, rfl⟩ := hz
   by_cases he : e = 0
   ·subst he
    have fin := fin2 rfl
    simp only [Prod.mk.injEq] at fin
    obtain ⟨rfl, rfl, rfl⟩ := fin
    have q5 := q5 l (by omega)
    have q5 : DCall P _ [.ptr 0 0, .int .u32 (d.dom : Int), .agg [.int .i64 (i : Int), .int .i64 ((sc : Nat) : Int), .sl (scl l)]] _ _ _ := q5
    have hnl := fun h => nl_set (c := d.c) h ⟨d.dom, ⟨(i : Int), ((sc : Nat) : Int), l⟩⟩
    generalize setErr d.c ⟨d.dom, ⟨(i : Int), ((sc : Nat) : Int), l⟩⟩ = er at *
    generalize setS d.c ⟨d.dom, ⟨(i : Int), ((sc : Nat) : Int), l⟩⟩ = c1 at *
    (conv => whnf); (repeat' ((with_reducible first | refine Box.mk ?_ | refine And.intro (fun _ => ?_) (fun _ => ?_) | fail) <;> conv => whnf))
    ·exfalso; rename_i h; have h : (j : Int) < (j : Int) := h; omega
    refine aW [3] q6 rfl rfl rfl ?_
    (conv => whnf); (repeat' ((with_reducible first | refine Box.mk ?_ | refine And.intro (fun _ => ?_) (fun _ => ?_) | fail) <;> conv => whnf))
    rotate_left
    ·exact absurd rfl (by assumption)
    clear hnl hz0 fin1 fin2
    obtain ⟨nl1, es1, clk1⟩ := c1
    refine ⟨[(2010, [])], by kernel_rfl, ?_⟩
    (conv => whnf); repeat' ((with_reducible refine Box.mk ?_) <;> conv => whnf)
    cases nl1
    ·have q5 : DCall P _ _ _ _ (CHp es1 clk1) := q5
     refine aDwC 5 [0] [.ptr 0 0, .int .u32 (d.dom : Int), .agg [.int .i64 (i : Int), .int .i64 ((sc : Nat) : Int), .sl (scl l)]] q5 rfl rfl rfl ⟨rfl, rfl, rfl, trivial⟩ rfl rfl rfl ?_

     (conv => whnf); repeat' ((with_reducible refine Box.mk ?_) <;> conv => whnf)
     exact weak_ren_to [(0, true), (1, true), (2, true), (3, true), (6, true)] rfl rfl rfl ⟨rfl, trivial⟩
    ·have q5 : DCall P _ _ _ _ [.box 67 [.nilm]] := q5
     refine aDwC 5 [0] [.ptr 0 0, .int .u32 (d.dom : Int), .agg [.int .i64 (i : Int), .int .i64 ((sc : Nat) : Int), .sl (scl l)]] q5 rfl rfl rfl ⟨rfl, rfl, rfl, trivial⟩ rfl rfl rfl ?_

     (conv => whnf); repeat' ((with_reducible refine Box.mk ?_) <;> conv => whnf)
     exact weak_ren_to [(0, true), (1, true), (2, true), (3, true)] rfl rfl rfl ⟨rfl, trivial⟩
   ·have fin := fin1 he
    simp only [Prod.mk.injEq] at fin
    obtain ⟨rfl, rfl, rfl⟩ := fin
    (conv => whnf); (repeat' ((with_reducible first | refine Box.mk ?_ | refine And.intro (fun _ => ?_) (fun _ => ?_) | fail) <;> conv => whnf))
    ·exfalso; rename_i h; have h : (j : Int) < (j : Int) := h; omega
    refine aW [3] q6 rfl rfl rfl ?_
    (conv => whnf); (repeat' ((with_reducible first | refine Box.mk ?_ | refine And.intro (fun _ => ?_) (fun _ => ?_) | fail) <;> conv => whnf))
    ·exact absurd (by assumption) he
    unfold tH
    rw [show ({ d with c := d.c } : Rd Cs).c.nl = true from hn]
    exact weak_ren_to [(0, true), (1, true), (2, true), (3, true)] rfl rfl rfl ⟨rfl, trivial⟩)
end Go.Proofs.YtnajpmepcffnaaaGreatDoor
end

section
/- ipfix: templates, read. -/
namespace Go.Proofs.YtnajpmepcffnaaaGreatDoor
open Go.Ve

theorem rest_zero (bs : Bs) : restN bs 0 = bs.length := by unfold restN; rfl
theorem rLeft0 (bs : Bs) : DCall P 43 [.ptr 0 0] (rH bs 0) (.int .i64 (bs.length : Int)) (rH bs 0) := by
 have := rLeft_ok bs 0
 rwa [rest_zero] at this
theorem tmpls_short (m : Nat) (c : Cs) (d : Nat) (opt : Bool) {bs : Bs} (h : bs.length < 4) : tmplsF opC m c d opt bs = (c, 0) := by
 cases m with
 | zero => rfl
 | succ m => unfold tmplsF; rw [if_pos h]
theorem tmpls_bad {m : Nat} {c : Cs} {d : Nat} {opt : Bool} {bs : Bs} {z : Cs × Int} (hz : tmplsF opC m c d opt bs = z) (h4 : 4 ≤ bs.length) (hm : bs.length ≤ m) (h : (tmplF opC c d opt bs).2.1 ≠ 0) : z = ((tmplF opC c d opt bs).1, (tmplF opC c d opt bs).2.1) := by
 obtain ⟨m, rfl⟩ : ∃ k, m = k + 1 := ⟨m - 1, by omega⟩
 rw [← hz]
 unfold tmplsF
 rw [if_neg (by omega)]
 generalize tmplF opC c d opt bs = q at *
 obtain ⟨c1, er, b1⟩ := q
 dsimp only at h ⊢
 rw [if_pos h]
theorem tmpls_good {m : Nat} {c : Cs} {d : Nat} {opt : Bool} {bs : Bs} {z : Cs × Int} (hz : tmplsF opC m c d opt bs = z) (h4 : 4 ≤ bs.length) (hm : bs.length ≤ m) (h : (tmplF opC c d opt bs).2.1 = 0) :
  ∃ m', (tmplF opC c d opt bs).2.2.length ≤ m' ∧ (tmplF opC c d opt bs).2.2.length < bs.length ∧ tmplsF opC m' (tmplF opC c d opt bs).1 d opt (tmplF opC c d opt bs).2.2 = z := by
 obtain ⟨m, rfl⟩ : ∃ k, m = k + 1 := ⟨m - 1, by omega⟩
 have he := tmpl_eat (O := opC) (c := c) (d := d) (opt := opt) (bs := bs)
 refine ⟨m, by omega, by omega, ?_⟩
 rw [← hz]
 conv => rhs; unfold tmplsF
 rw [if_neg (by omega)]
 generalize tmplF opC c d opt bs = q at *
 obtain ⟨c1, er, b1⟩ := q
 dsimp only at h ⊢
 rw [if_neg (fun hx => hx h)]
theorem tmpl_okF (d : Rd Cs) (hn : d.c.nl = false) (hc : CI d.c) (opt : Bool) (bs : Bs) (h4 : 4 ≤ bs.length) (hbs : bs.length ≤ 1000000000) :
  ∃ e', ((tmplF opC d.c d.dom opt bs).2.1 = 0 → e' = 0) ∧ DCall P 102 [.ptr 1 0, .ptr 3 0, .bool opt] (tF d bs 0) (.int .i64 (tmplF opC d.c d.dom opt bs).2.1) (tF { d with c := (tmplF opC d.c d.dom opt bs).1 } (tmplF opC d.c d.dom opt bs).2.2 e') := by
 have h : TmplSays d opt bs tF := by
  cases opt
  ·exact tmpl_Ffalse d hn hc bs h4 hbs
  ·exact tmpl_Ftrue d hn hc bs h4 hbs
 obtain ⟨e', h1, h2⟩ := h
 refine ⟨e', h1, ?_⟩
 unfold tH at h2
 rwa [show ({ d with c := (tmplF opC d.c d.dom opt bs).1 } : Rd Cs).c.nl = false from nl_tmpl hn _ _ _] at h2
theorem tmpl_okN (d : Rd Cs) (hn : d.c.nl = true) (hc : CI d.c) (opt : Bool) (bs : Bs) (h4 : 4 ≤ bs.length) (hbs : bs.length ≤ 1000000000) : TmplSays d opt bs tN := by
 cases opt
 ·exact tmpl_Nfalse d hn hc bs h4 hbs
 ·exact tmpl_Ntrue d hn hc bs h4 hbs
set_option maxHeartbeats 4000000 in
theorem tmpls_F (d : Rd Cs) (hn : d.c.nl = false) (hc : CI d.c) (hd : d.dom < 4294967296) (opt : Bool) (b : Bs) (hb : b.length ≤ 1000000000) :
  DCall P 74 [.ptr 1 0, .sl (bcl b), .bool opt] (dF d) (.int .i64 (tmplsF opC b.length d.c d.dom opt b).2) (dF { d with c := (tmplsF opC b.length d.c d.dom opt b).1 }) := by
 have q1 := from_sl b hb
 obtain ⟨z, hz⟩ : ∃ z, tmplsF opC b.length d.c d.dom opt b = z := ⟨_, rfl⟩
 rw [hz]
 refine DCall.of_awp tok mixed fn74 (Nat.le_of_ble_eq_true rfl) ?_
 (conv => whnf); repeat' ((with_reducible refine Box.mk ?_) <;> conv => whnf)
 refine aW [] q1 rfl rfl rfl ?_
 (conv => whnf); repeat' ((with_reducible refine Box.mk ?_) <;> conv => whnf)
 refine aloop (fun x : Cs × Bs × Nat => CI x.1 ∧ x.1.nl = false ∧ x.2.1.length ≤ x.2.2 ∧ x.2.1.length ≤ 1000000000 ∧ tmplsF opC x.2.2 x.1 d.dom opt x.2.1 = z)
  (fun x => ⟨envL [(0, .ptr 1 0), (2, .bool opt), (7, .ptr 4 0)], [.box 67 [.own 3], rdB d, rdR d, .map pk2 (ces x.1.es) x.1.clk, .box 140 [.bool true, .sl (bcl x.2.1), .int .i64 0]]⟩)
  (fun x => x.2.1.length) (d.c, b, b.length) ⟨hc, hn, Nat.le_refl _, hb, hz⟩ (weak_to ⟨rfl, rfl, rfl, trivial⟩ rfl) ?_
 rintro ⟨c, bs, m⟩ ⟨hc, hn, hm, hbs, hz⟩
 dsimp only at hc hn hm hbs hz ⊢
 have q2 := rLeft0 bs
 by_cases h4 : 4 ≤ bs.length
 ·obtain ⟨e', he', q3⟩ := tmpl_okF { d with c := c } hn hc opt bs h4 hbs
  have hci := ci_tmpl hc hd opt bs
  have hnl := nl_tmpl hn d.dom opt bs
  have hbad := tmpls_bad hz h4 hm
  have hgood := tmpls_good hz h4 hm
  have he' : (tmplF opC c d.dom opt bs).2.1 = 0 → e' = 0 := he'
  have q3 : DCall P _ _ (tF { d with c := c } bs 0) (.int .i64 (tmplF opC c d.dom opt bs).2.1) (tF { d with c := (tmplF opC c d.dom opt bs).1 } (tmplF opC c d.dom opt bs).2.2 e') := q3
  generalize tmplF opC c d.dom opt bs = q at *
  obtain ⟨c1, er, b1⟩ := q
  dsimp only at he' q3 hci hnl hbad hgood
  clear hz
  (conv => whnf); repeat' ((with_reducible refine Box.mk ?_) <;> conv => whnf)
  refine aW [4] q2 rfl rfl rfl ?_
  (conv => whnf); (repeat' ((with_reducible first | refine Box.mk ?_ | refine And.intro (fun _ => ?_) (fun _ => ?_) | fail) <;> conv => whnf))
  ·refine aW [0, 1, 2, 4, 3] q3 rfl rfl rfl ?_
   (conv => whnf); (repeat' ((with_reducible first | refine Box.mk ?_ | refine And.intro (fun _ => ?_) (fun _ => ?_) | fail) <;> conv => whnf))
   ·rename_i he
    have he : er = 0 := he
    subst he
    have he' := he' rfl
    subst he'
    obtain ⟨m', k1, k2, k3⟩ := hgood rfl
    exact ⟨(c1, b1, m'), ⟨hci, hnl, k1, by show b1.length ≤ _; omega, k3⟩, k2, weak_ren_to [(0, true), (1, true), (2, true), (3, true), (4, true)] rfl rfl rfl ⟨rfl, rfl, rfl, trivial⟩⟩
   ·rename_i he
    rw [hbad he]
    exact weak_ren_to [(0, true), (1, true), (2, true), (3, true)] rfl rfl rfl ⟨rfl, trivial⟩
  ·exfalso; rename_i h; have h : ¬ (4 : Int) ≤ (bs.length : Int) := h; omega
 ·rw [tmpls_short m c d.dom opt (by omega)] at hz
  subst hz
  (conv => whnf); repeat' ((with_reducible refine Box.mk ?_) <;> conv => whnf)
  refine aW [4] q2 rfl rfl rfl ?_
  (conv => whnf); (repeat' ((with_reducible first | refine Box.mk ?_ | refine And.intro (fun _ => ?_) (fun _ => ?_) | fail) <;> conv => whnf))
  ·exfalso; rename_i h; have h : (4 : Int) ≤ (bs.length : Int) := h; omega
  exact weak_ren_to [(0, true), (1, true), (2, true), (3, true)] rfl rfl rfl ⟨rfl, trivial⟩
set_option maxHeartbeats 4000000 in
theorem tmpls_N (d : Rd Cs) (hn : d.c.nl = true) (hc : CI d.c) (hd : d.dom < 4294967296) (opt : Bool) (b : Bs) (hb : b.length ≤ 1000000000) :
  DCall P 74 [.ptr 1 0, .sl (bcl b), .bool opt] (dN d) (.int .i64 (tmplsF opC b.length d.c d.dom opt b).2) (dH { d with c := (tmplsF opC b.length d.c d.dom opt b).1 }) := by
 have q1 := from_sl b hb
 obtain ⟨z, hz⟩ : ∃ z, tmplsF opC b.length d.c d.dom opt b = z := ⟨_, rfl⟩
 rw [hz]
 refine DCall.of_awp tok mixed fn74 (Nat.le_of_ble_eq_true rfl) ?_
 (conv => whnf); repeat' ((with_reducible refine Box.mk ?_) <;> conv => whnf)
 refine aW [] q1 rfl rfl rfl ?_
 (conv => whnf); repeat' ((with_reducible refine Box.mk ?_) <;> conv => whnf)
 refine aloop (fun x : Cs × Bs × Nat => CI x.1 ∧ x.2.1.length ≤ x.2.2 ∧ x.2.1.length ≤ 1000000000 ∧ tmplsF opC x.2.2 x.1 d.dom opt x.2.1 = z)
  (fun x => ⟨envL [(0, .ptr 1 0), (2, .bool opt), (7, .ptr 3 0)], tH { d with c := x.1 } x.2.1 0⟩)
  (fun x => x.2.1.length) (d.c, b, b.length) ⟨hc, Nat.le_refl _, hb, hz⟩ (weak_to ⟨rfl, rfl, rfl, trivial⟩ (by unfold tH; rw [show ({ d with c := (d.c, b, b.length).1 } : Rd Cs).c.nl = true from hn]; rfl)) ?_
 clear hn hc
 rintro ⟨c, bs, m⟩ ⟨hc, hm, hbs, hz⟩
 dsimp only at hc hm hbs hz ⊢
 have q2 := rLeft0 bs
 by_cases h4 : 4 ≤ bs.length
 ·have hci := ci_tmpl hc hd opt bs
  have hbad := tmpls_bad hz h4 hm
  have hgood := tmpls_good hz h4 hm
  obtain ⟨nl, es, clk⟩ := c
  cases nl
  ·have hnl := nl_tmpl (c := ⟨false, es, clk⟩) rfl d.dom opt bs
   obtain ⟨e', he', q3⟩ := tmpl_okF { d with c := ⟨false, es, clk⟩ } rfl hc opt bs h4 hbs
   have he' : (tmplF opC ⟨false, es, clk⟩ d.dom opt bs).2.1 = 0 → e' = 0 := he'
   have q3 : DCall P _ _ (tF { d with c := ⟨false, es, clk⟩ } bs 0) (.int .i64 (tmplF opC ⟨false, es, clk⟩ d.dom opt bs).2.1) (tF { d with c := (tmplF opC ⟨false, es, clk⟩ d.dom opt bs).1 } (tmplF opC ⟨false, es, clk⟩ d.dom opt bs).2.2 e') := q3
   generalize tmplF opC ⟨false, es, clk⟩ d.dom opt bs = q at *
   obtain ⟨⟨nl1, es1, clk1⟩, er, b1⟩ := q
   dsimp only at he' q3 hci hnl hbad hgood
   subst hnl
   clear hz
   (conv => whnf); repeat' ((with_reducible refine Box.mk ?_) <;> conv => whnf)
   refine aW [3] q2 rfl rfl rfl ?_
   (conv => whnf); (repeat' ((with_reducible first | refine Box.mk ?_ | refine And.intro (fun _ => ?_) (fun _ => ?_) | fail) <;> conv => whnf))
   ·refine aW [0, 1, 2, 3, 4] q3 rfl rfl rfl ?_
    (conv => whnf); (repeat' ((with_reducible first | refine Box.mk ?_ | refine And.intro (fun _ => ?_) (fun _ => ?_) | fail) <;> conv => whnf))
    ·rename_i he
     have he : er = 0 := he
     subst he
     have he' := he' rfl
     subst he'
     obtain ⟨m', k1, k2, k3⟩ := hgood rfl
     exact ⟨(⟨false, es1, clk1⟩, b1, m'), ⟨hci, k1, by show b1.length ≤ _; omega, k3⟩, k2, weak_ren_to [(0, true), (1, true), (2, true), (3, true), (4, true)] rfl rfl rfl ⟨rfl, rfl, rfl, trivial⟩⟩
    ·rename_i he
     rw [hbad he]
     exact weak_ren_to [(0, true), (1, true), (2, true), (4, true)] rfl rfl rfl ⟨rfl, trivial⟩
   ·exfalso; rename_i h; have h : ¬ (4 : Int) ≤ (bs.length : Int) := h; omega
  ·obtain ⟨e', he', q3⟩ := tmpl_okN { d with c := ⟨true, es, clk⟩ } rfl hc opt bs h4 hbs
   have he' : (tmplF opC ⟨true, es, clk⟩ d.dom opt bs).2.1 = 0 → e' = 0 := he'
   have q3 : DCall P _ _ (tN { d with c := ⟨true, es, clk⟩ } bs 0) (.int .i64 (tmplF opC ⟨true, es, clk⟩ d.dom opt bs).2.1) (tH { d with c := (tmplF opC ⟨true, es, clk⟩ d.dom opt bs).1 } (tmplF opC ⟨true, es, clk⟩ d.dom opt bs).2.2 e') := q3
   generalize tmplF opC ⟨true, es, clk⟩ d.dom opt bs = q at *
   obtain ⟨⟨nl1, es1, clk1⟩, er, b1⟩ := q
   dsimp only at he' q3 hci hbad hgood
   clear hz
   cases nl1
   ·have q3 : DCall P _ _ (tN { d with c := ⟨true, es, clk⟩ } bs 0) (.int .i64 er) (tF { d with c := ⟨false, es1, clk1⟩ } b1 e') := q3
    (conv => whnf); repeat' ((with_reducible refine Box.mk ?_) <;> conv => whnf)
    refine aW [3] q2 rfl rfl rfl ?_
    (conv => whnf); (repeat' ((with_reducible first | refine Box.mk ?_ | refine And.intro (fun _ => ?_) (fun _ => ?_) | fail) <;> conv => whnf))
    ·refine aW [0, 1, 2, 3] q3 rfl rfl rfl ?_
     (conv => whnf); (repeat' ((with_reducible first | refine Box.mk ?_ | refine And.intro (fun _ => ?_) (fun _ => ?_) | fail) <;> conv => whnf))
     ·rename_i he
      have he : er = 0 := he
      subst he
      have he' := he' rfl
      subst he'
      obtain ⟨m', k1, k2, k3⟩ := hgood rfl
      exact ⟨(⟨false, es1, clk1⟩, b1, m'), ⟨hci, k1, by show b1.length ≤ _; omega, k3⟩, k2, weak_ren_to [(0, true), (1, true), (2, true), (3, true), (4, true)] rfl rfl rfl ⟨rfl, rfl, rfl, trivial⟩⟩
     ·rename_i he
      rw [hbad he]
      exact weak_ren_to [(0, true), (1, true), (2, true), (4, true)] rfl rfl rfl ⟨rfl, trivial⟩
    ·exfalso; rename_i h; have h : ¬ (4 : Int) ≤ (bs.length : Int) := h; omega
   ·have q3 : DCall P _ _ (tN { d with c := ⟨true, es, clk⟩ } bs 0) (.int .i64 er) (tN { d with c := ⟨true, es1, clk1⟩ } b1 e') := q3
    (conv => whnf); repeat' ((with_reducible refine Box.mk ?_) <;> conv => whnf)
    refine aW [3] q2 rfl rfl rfl ?_
    (conv => whnf); (repeat' ((with_reducible first | refine Box.mk ?_ | refine And.intro (fun _ => ?_) (fun _ => ?_) | fail) <;> conv => whnf))
    ·refine aW [0, 1, 2, 3] q3 rfl rfl rfl ?_
     (conv => whnf); (repeat' ((with_reducible first | refine Box.mk ?_ | refine And.intro (fun _ => ?_) (fun _ => ?_) | fail) <;> conv => whnf))
     ·rename_i he
      have he : er = 0 := he
      subst he
      have he' := he' rfl
      subst he'
      obtain ⟨m', k1, k2, k3⟩ := hgood rfl
      exact ⟨(⟨true, es1, clk1⟩, b1, m'), ⟨hci, k1, by show b1.length ≤ _; omega, k3⟩, k2, weak_ren_to [(0, true), (1, true), (2, true), (3, true)] rfl rfl rfl ⟨rfl, rfl, rfl, trivial⟩⟩
     ·rename_i he
      rw [hbad he]
      exact weak_ren_to [(0, true), (1, true), (2, true)] rfl rfl rfl ⟨rfl, trivial⟩
    ·exfalso; rename_i h; have h : ¬ (4 : Int) ≤ (bs.length : Int) := h; omega
 ·rw [tmpls_short m c d.dom opt (by omega)] at hz
  subst hz
  obtain ⟨nl, es, clk⟩ := c
  cases nl
  ·(conv => whnf); repeat' ((with_reducible refine Box.mk ?_) <;> conv => whnf)
   refine aW [3] q2 rfl rfl rfl ?_
   (conv => whnf); (repeat' ((with_reducible first | refine Box.mk ?_ | refine And.intro (fun _ => ?_) (fun _ => ?_) | fail) <;> conv => whnf))
   ·exfalso; rename_i h; have h : (4 : Int) ≤ (bs.length : Int) := h; omega
   exact weak_ren_to [(0, true), (1, true), (2, true), (4, true)] rfl rfl rfl ⟨rfl, trivial⟩
  ·(conv => whnf); repeat' ((with_reducible refine Box.mk ?_) <;> conv => whnf)
   refine aW [3] q2 rfl rfl rfl ?_
   (conv => whnf); (repeat' ((with_reducible first | refine Box.mk ?_ | refine And.intro (fun _ => ?_) (fun _ => ?_) | fail) <;> conv => whnf))
   ·exfalso; rename_i h; have h : (4 : Int) ≤ (bs.length : Int) := h; omega
   exact weak_ren_to [(0, true), (1, true), (2, true)] rfl rfl rfl ⟨rfl, trivial⟩
end Go.Proofs.YtnajpmepcffnaaaGreatDoor
end

section
/- ipfix: a record, read. -/
namespace Go.Proofs.YtnajpmepcffnaaaGreatDoor
open Go.Ve

def recX : List Sc → Bs → Rc → Int
 | [], _, _ => 0
 | s :: r, bs, f => match valueF s bs 0 with
  | (v, b1, e1) => if e1 ≠ 0 then e1 else if setE s v ≠ 0 then 0 else recX r b1 (updR s v f)
theorem recX_ok : ∀ (fs : List Sc) (bs : Bs) (f : Rc), (recF fs bs f).2.1 = 0 → recX fs bs f = 0
 | [], _, _, _ => rfl
 | s :: r, bs, f, h => by
  unfold recF at h
  unfold recX
  generalize valueF s bs 0 = q at *
  obtain ⟨v, b1, e1⟩ := q
  dsimp only at h ⊢
  by_cases h1 : e1 ≠ 0
  ·rw [if_pos h1] at h; exact absurd h h1
  ·rw [if_neg h1] at h ⊢
   by_cases h2 : setE s v ≠ 0
   ·rw [if_pos h2]
   ·rw [if_neg h2] at h ⊢
    exact recX_ok r b1 _ h
theorem raw_le (n : Int) (bs : Bs) (e : Int) : (rawF n bs e).1.length ≤ bs.length := by
 unfold rawF
 split
 ·exact Nat.zero_le _
 ·split
  ·exact Nat.zero_le _
  ·show (bs.take _).length ≤ _
   rw [List.length_take]; omega
theorem value_le (s : Sc) (bs : Bs) (e : Int) : (valueF s bs e).1.length ≤ bs.length ∧ (valueF s bs e).2.1.length ≤ bs.length := by
 unfold valueF
 split
 ·unfold ownF
  have h1 := raw_rest 1 bs (mustE e (rightS s))
  generalize rawF 1 bs (mustE e (rightS s)) = q at *
  obtain ⟨x1, b1, e1⟩ := q
  dsimp only at h1 ⊢
  have h2 := raw_rest 2 b1 e1
  generalize rawF 2 b1 e1 = q at *
  obtain ⟨x2, b2, e2⟩ := q
  dsimp only at h2 ⊢
  split
  ·exact ⟨Nat.le_trans (raw_le _ _ _) (by omega), Nat.le_trans (raw_rest _ _ _) (by omega)⟩
  ·exact ⟨Nat.le_trans (raw_le _ _ _) (by omega), Nat.le_trans (raw_rest _ _ _) (by omega)⟩
 ·exact ⟨raw_le _ _ _, raw_rest _ _ _⟩
theorem rcz : rcc zeroR = [.int .i64 0, .int .i64 0, .int .u64 0, .int .u64 0, .str [], .int .i64 0, .int .i64 0, .int .u64 0, .int .u64 0, .str [], .int .i64 0, .int .i64 0, .int .u64 0, .int .u64 0, .str [], .int .i64 0, .int .i64 0, .int .u64 0, .int .u64 0, .str [], .int .u64 0, .int .u64 0] := by kernel_rfl
set_option maxHeartbeats 8000000 in
theorem record_ok (t : Tm) (hl : t.fields.length ≤ 64) (bs : Bs) (hbs : bs.length ≤ 1000000000) :
  DCall P 104 [.ptr 0 0, tv t] (rH bs 0) (.tup [rcv (recF t.fields bs zeroR).1, .int .i64 (recF t.fields bs zeroR).2.1]) (rH (recF t.fields bs zeroR).2.2 (recX t.fields bs zeroR)) := by
 obtain ⟨z, hz⟩ : ∃ z, z = (recF t.fields bs zeroR, recX t.fields bs zeroR) := ⟨_, rfl⟩
 have e1 : recF t.fields bs zeroR = z.1 := by rw [hz]
 have e2 : recX t.fields bs zeroR = z.2 := by rw [hz]
 have hz0 : (recF (t.fields.drop 0) bs zeroR, recX (t.fields.drop 0) bs zeroR) = z := by rw [List.drop_zero]; exact hz.symm
 rw [e1, e2]
 clear hz e1 e2
 obtain ⟨⟨g, er, b1⟩, ex⟩ := z
 dsimp only
 obtain ⟨tid, tsc, fs⟩ := t
 dsimp only at hl hz0
 have hfl := scl_len fs
 refine DCall.of_awp tok mixed fn104 (Nat.le_of_ble_eq_true rfl) ?_
 (conv => whnf); repeat' ((with_reducible refine Box.mk ?_) <;> conv => whnf)
 refine aloop (fun x : Nat × Rc × Bs => x.1 ≤ fs.length ∧ x.2.2.length ≤ 1000000000 ∧ (recF (fs.drop x.1) x.2.2 x.2.1, recX (fs.drop x.1) x.2.2 x.2.1) = ((g, er, b1), ex))
  (fun x => ⟨envL [(0, .ptr 0 0), (4, .ptr 2 0), (6, .ptr 3 0), (14, .sl (scl fs)), (15, .int .i64 ((scl fs).length : Int)), (16, .int .i64 (x.1 : Int))],
   [.box 140 [.bool true, .sl (bcl x.2.2), .int .i64 0], .dead, .box 55 [.int .i64 0, .int .i64 0, .int .u64 0, .int .u64 0, .str [], .int .i64 0, .int .i64 0, .int .u64 0, .int .u64 0, .str [], .int .i64 0, .int .i64 0, .int .u64 0, .int .u64 0, .str [], .int .i64 0, .int .i64 0, .int .u64 0, .int .u64 0, .str [], .int .u64 0, .int .u64 0], .box 55 (rcc x.2.1)]⟩)
  (fun x => fs.length - x.1) (0, zeroR, bs) ⟨Nat.zero_le _, hbs, hz0⟩ (weak_ren_to [(0, true), (1, false), (2, true), (3, true)] rfl rfl (by show _ = [_, _, _, Ob.box 55 (rcc zeroR)]; rw [rcz]; rfl) ⟨rfl, rfl, rfl, rfl, rfl, rfl, trivial⟩) ?_
 rintro ⟨i, f, bs⟩ ⟨hi, hbs, hz⟩
 dsimp only at hi hbs hz ⊢
 by_cases hlt : i < fs.length
 ·have hx := List.getElem?_eq_getElem hlt
  rw [← List.getElem_cons_drop hlt] at hz
  generalize fs[i] = s at *
  unfold recF recX at hz
  have q1 := fValue_ok s bs 0 hbs
  have l1 := value_le s bs 0
  generalize valueF s bs 0 = y at *
  obtain ⟨v, b2, ev⟩ := y
  dsimp only at q1 l1 hz
  have q2 := rErr_ok b2 ev
  have q3 := fSet_ok s v f (by omega)
  have hsr : setE s v = 0 → setR s v f = updR s v f := fun h => by unfold setR; rw [if_pos h]
  generalize updR s v f = f2 at *
  generalize setE s v = es at *
  generalize setR s v f = f3 at *
  (conv => whnf); (repeat' ((with_reducible first | refine Box.mk ?_ | refine And.intro (fun _ => ?_) (fun _ => ?_) | fail) <;> conv => whnf))
  rotate_left
  ·exfalso; rename_i h; have h : ¬ (i : Int) < ((scl fs).length : Int) := h; omega
  refine ⟨by omega, scc s, scl_get hx, rfl, ?_⟩
  (conv => whnf); repeat' ((with_reducible refine Box.mk ?_) <;> conv => whnf)
  refine aW [0] q1 rfl rfl rfl ?_
  (conv => whnf); repeat' ((with_reducible refine Box.mk ?_) <;> conv => whnf)
  refine aW [0] q2 rfl rfl rfl ?_
  (conv => whnf); (repeat' ((first | (with_reducible first | refine Box.mk ?_ | refine And.intro (fun _ => ?_) (fun _ => ?_) | fail) | ((with_reducible show ACall _ _ _ _ _); refine ACall.of_pure (by assumption) (by rfl) ?_) | fail) <;> conv => whnf))
  ·rename_i he he2
   have he : ev = 0 := he
   have he2 : es = 0 := he2
   subst he
   rw [if_neg (show ¬ (0 : Int) ≠ 0 from fun h => h rfl), if_neg (show ¬ (0 : Int) ≠ 0 from fun h => h rfl), if_neg (fun h => h he2), if_neg (fun h => h he2)] at hz
   have hsr := hsr he2
   subst hsr
   exact ⟨(i + 1, f3, b2), ⟨hlt, by show b2.length ≤ _; omega, hz⟩, by show fs.length - (i + 1) < fs.length - i; omega, weak_ren_to [(0, true), (1, false), (2, true), (3, true)] rfl rfl rfl ⟨rfl, rfl, rfl, rfl, rfl, wrap_nat (m := 1) (by omega), trivial⟩⟩
  ·rename_i he he2
   have he : ev = 0 := he
   have he2 : ¬ es = 0 := he2
   subst he
   rw [if_neg (show ¬ (0 : Int) ≠ 0 from fun h => h rfl), if_neg (show ¬ (0 : Int) ≠ 0 from fun h => h rfl), if_pos he2, if_pos he2] at hz
   simp only [Prod.mk.injEq] at hz
   obtain ⟨⟨rfl, rfl, rfl⟩, rfl⟩ := hz
   exact weak_ren_to [(0, true)] rfl rfl rfl ⟨by unfold rcv; rw [rcz]; rfl, trivial⟩
  ·rename_i he
   rw [if_pos he, if_pos he] at hz
   simp only [Prod.mk.injEq] at hz
   obtain ⟨⟨rfl, rfl, rfl⟩, rfl⟩ := hz
   exact weak_ren_to [(0, true)] rfl rfl rfl ⟨by unfold rcv; rw [rcz]; rfl, trivial⟩
 ·have : i = fs.length := by omega
  subst this
  rw [List.drop_length] at hz
  unfold recF recX at hz
  simp only [Prod.mk.injEq] at hz
  obtain ⟨⟨rfl, rfl, rfl⟩, rfl⟩ := hz
  (conv => whnf); (repeat' ((with_reducible first | refine Box.mk ?_ | refine And.intro (fun _ => ?_) (fun _ => ?_) | fail) <;> conv => whnf))
  ·exfalso; rename_i h; have h : ((fs.length : Nat) : Int) < ((scl fs).length : Int) := h; omega
  exact weak_ren_to [(0, true)] rfl rfl rfl ⟨rfl, trivial⟩
end Go.Proofs.YtnajpmepcffnaaaGreatDoor
end

section
/- ipfix: records, read. -/
namespace Go.Proofs.YtnajpmepcffnaaaGreatDoor
open Go.Ve

def rdK (d : Rd Cs) (k : Nat) : Ob := .box 72 [.ptr 0 0, .int .u32 (d.time : Int), .int .u32 (d.seq : Int), .int .u32 (d.dom : Int), .int .i64 (d.lost : Int), .int .i64 (d.idle : Int), .own k]
def qF (d : Rd Cs) : Hp := [.box 67 [.own 3], rdK d 4, .dead, .map pk2 (ces d.c.es) d.c.clk, rdR d]
def qN (d : Rd Cs) : Hp := [.box 67 [.nilm], rdK d 3, .dead, rdR d]
def qM (d : Rd Cs) : Hp := [.box 67 [.own 4], rdK d 3, .dead, rdR d, .map pk2 (ces d.c.es) d.c.clk]
def qH (d : Rd Cs) : Hp := bif d.c.nl then qN d else qM d
theorem says_right {s : Sc} (h : saysS s ≠ -1) : RightS s := by
 unfold saysS at h
 by_cases hR : RightS s
 ·exact hR
 ·rw [if_pos hR] at h; exact absurd rfl h
theorem right_all {t : Tm} (h : rightT t = true) : 1 ≤ t.fields.length ∧ t.fields.length ≤ 64 ∧ ∀ s ∈ t.fields, RightS s := by
 unfold rightT at h
 rw [Bool.and_eq_true] at h
 have h1 := of_decide_eq_true h.1
 refine ⟨h1.2.2.1, h1.2.2.2.1, fun s hs => says_right ?_⟩
 exact of_decide_eq_true (List.all_eq_true.1 h.2 s hs)
theorem sizes_nn : ∀ {l : List Sc}, (∀ s ∈ l, RightS s) → (l.length : Int) ≤ sizesF l
 | [], _ => Int.le_refl _
 | s :: r, h => by
  have h1 := sizes_nn (l := r) fun x hx => h x (List.mem_cons_of_mem _ hx)
  have hr := h s List.mem_cons_self
  have h2 := hr
  unfold RightS at h2
  unfold sizesF sizeS
  rw [List.length_cons, if_neg (fun hx => hx hr)]
  split <;> omega

set_option maxHeartbeats 8000000 in
theorem records_F (d : Rd Cs) (hn : d.c.nl = false) (id : Nat) (b : Bs) (hI : RI d (b.length + 1)) (hb : b.length ≤ 1000000000) :
  DCall P 75 [.ptr 1 0, .sl (bcl b), .int .i64 (id : Int)] (dF d) (.int .i64 (recordsF opC d id b).2) (qF (recordsF opC d id b).1) := by
 obtain ⟨hc, hd, hlo, hid, hou⟩ := hI
 have q1 := find_ok d.c hc d.dom (id : Int)
 rw [show cH d.c = (CHp d.c.es d.c.clk) by unfold cH; rw [hn]; rfl] at q1
 unfold recordsF
 have wl : IntKind.i64.wrap ((d.lost : Int) + 1) = ((d.lost + 1 : Nat) : Int) := by rw [wrap_i64 (by omega) (by omega)]; omega
 have wi : IntKind.i64.wrap ((d.idle : Int) + 1) = ((d.idle + 1 : Nat) : Int) := by rw [wrap_i64 (by omega) (by omega)]; omega
 rw [show opC.find d.c (d.dom, (id : Int)) = findE d.c.es (d.dom, (id : Int)) from rfl]
 cases hf : findE d.c.es (d.dom, (id : Int)) with
 | none =>
  rw [hf] at q1
  have q1 : DCall P _ _ _ (.tup [ztv, .bool false]) _ := q1
  refine DCall.of_awp tok mixed fn75 (Nat.le_of_ble_eq_true rfl) ?_
  (conv => whnf); repeat' ((with_reducible refine Box.mk ?_) <;> conv => whnf)
  refine ⟨[(14, [3, 8, 10])], by kernel_rfl, ?_⟩
  (conv => whnf); repeat' ((with_reducible refine Box.mk ?_) <;> conv => whnf)
  refine aDr [0, 3] q1 rfl rfl rfl rfl ?_
  (conv => whnf); repeat' ((with_reducible refine Box.mk ?_) <;> conv => whnf)
  refine ⟨⟨⟨rfl, rfl⟩, ⟨rfl, rfl⟩, aW [0, 3] q1 rfl rfl rfl ⟨rfl, rfl⟩, trivial⟩, ?_⟩
  (conv => whnf); repeat' ((with_reducible refine Box.mk ?_) <;> conv => whnf)
  rw [wl]
  exact weak_ren_to [(0, true), (1, true), (2, false), (3, true), (2, true)] rfl rfl rfl ⟨rfl, trivial⟩
 | some h =>
  rw [hf] at q1
  obtain ⟨⟨en, hen, rfl⟩, hk⟩ := findE_some hf
  obtain ⟨r1, r2, r3⟩ := right_all (hc.right en hen)
  have hsz := sizes_nn r3
  have q1 : DCall P _ _ _ (.tup [.agg [.int .i64 en.1.t.id, .int .i64 en.1.t.scope, .sl (scl en.1.t.fields)], .bool true]) _ := q1
  dsimp only
  generalize en.1.t = t at *
  have q2 := from_sl b hb
  have q3 := fSize_ok t.fields (by omega)
  by_cases hsc : 0 < t.scope
  ·rw [if_pos hsc]
   refine DCall.of_awp tok mixed fn75 (Nat.le_of_ble_eq_true rfl) ?_
   (conv => whnf); repeat' ((with_reducible refine Box.mk ?_) <;> conv => whnf)
   refine ⟨[(14, [3, 8, 10])], by kernel_rfl, ?_⟩
   (conv => whnf); repeat' ((with_reducible refine Box.mk ?_) <;> conv => whnf)
   refine aDr [0, 3] q1 rfl rfl rfl rfl ?_
   (conv => whnf); repeat' ((with_reducible refine Box.mk ?_) <;> conv => whnf)
   refine ⟨⟨⟨rfl, rfl⟩, ⟨rfl, rfl⟩, aW [0, 3] q1 rfl rfl rfl ⟨rfl, rfl⟩, trivial⟩, ?_⟩
   (conv => whnf); (repeat' ((with_reducible first | refine Box.mk ?_ | refine And.intro (fun _ => ?_) (fun _ => ?_) | fail) <;> conv => whnf))
   ·rw [wi]
    exact weak_ren_to [(0, true), (1, true), (2, false), (3, true), (2, true)] rfl rfl rfl ⟨rfl, trivial⟩
   ·exact absurd hsc (by assumption)
  ·rw [if_neg hsc]
   obtain ⟨z, hz⟩ : ∃ z, recsF b.length t.fields b d.out = z := ⟨_, rfl⟩
   rw [hz]
   have q4 := record_ok t r2
   obtain ⟨o, er⟩ := z
   dsimp only
   refine DCall.of_awp tok mixed fn75 (Nat.le_of_ble_eq_true rfl) ?_
   (conv => whnf); repeat' ((with_reducible refine Box.mk ?_) <;> conv => whnf)
   refine ⟨[(14, [3, 8, 10])], by kernel_rfl, ?_⟩
   (conv => whnf); repeat' ((with_reducible refine Box.mk ?_) <;> conv => whnf)
   refine aDr [0, 3] q1 rfl rfl rfl rfl ?_
   (conv => whnf); repeat' ((with_reducible refine Box.mk ?_) <;> conv => whnf)
   refine ⟨⟨⟨rfl, rfl⟩, ⟨rfl, rfl⟩, aW [0, 3] q1 rfl rfl rfl ⟨rfl, rfl⟩, trivial⟩, ?_⟩
   (conv => whnf); (repeat' ((with_reducible first | refine Box.mk ?_ | refine And.intro (fun _ => ?_) (fun _ => ?_) | fail) <;> conv => whnf))
   ·exact absurd (by assumption) hsc
   refine aW [] q2 rfl rfl rfl ?_
   (conv => whnf); repeat' ((with_reducible refine Box.mk ?_) <;> conv => whnf)
   refine aloop (fun x : List Rc × Bs × Nat => x.2.1.length ≤ x.2.2 ∧ x.2.1.length ≤ 1000000000 ∧ x.1.length + x.2.1.length ≤ 2000000000 ∧ recsF x.2.2 t.fields x.2.1 x.1 = (o, er))
    (fun x => ⟨envL [(0, .ptr 1 0), (7, .ptr 4 0), (9, .ptr 5 0)], [.box 67 [.own 3], rdK d 6, .dead, .map pk2 (ces d.c.es) d.c.clk, .box 58 [.int .i64 t.id, .int .i64 t.scope, .sl (scl t.fields)], .box 140 [.bool true, .sl (bcl x.2.1), .int .i64 0], .row 55 22 (rcl x.1)]⟩)
    (fun x => x.2.1.length) (d.out, b, b.length) ⟨Nat.le_refl _, hb, by show d.out.length + b.length ≤ _; omega, hz⟩ (weak_ren_to [(0, true), (1, true), (2, false), (3, true), (4, true), (5, true), (2, true)] rfl rfl rfl ⟨rfl, rfl, rfl, trivial⟩) ?_
   clear hz
   rintro ⟨l, bs, m⟩ ⟨hm, hbs, hol, hz⟩
   dsimp only at hm hbs hol hz ⊢
   have q5 := rLeft0 bs
   by_cases hlt : sizesF t.fields ≤ (bs.length : Int)
   ·obtain ⟨m, rfl⟩ : ∃ k, m = k + 1 := ⟨m - 1, by omega⟩
    have q4 := q4 bs hbs
    have hro := fun (g : Rc) (b1 : Bs) => rec_eat (fs := t.fields) (bs := bs) (f := zeroR) (g := g) (b1 := b1)
    have hx := recX_ok t.fields bs zeroR
    unfold recsF at hz
    rw [if_neg (by omega)] at hz
    generalize recX t.fields bs zeroR = ex at *
    generalize recF t.fields bs zeroR = y at *
    obtain ⟨g, e1, b1⟩ := y
    dsimp only at q4 hro hx hz
    have q4 : DCall P _ [.ptr 0 0, .agg [.int .i64 t.id, .int .i64 t.scope, .sl (scl t.fields)]] _ (.tup [.agg (rcc g), .int .i64 e1]) _ := q4
    have hrl := rcl_len l
    (conv => whnf); (repeat' ((with_reducible first | refine Box.mk ?_ | refine And.intro (fun _ => ?_) (fun _ => ?_) | refine (forceH_eq _ _).mpr ?_ | fail) <;> conv => whnf))
    refine ⟨[], by kernel_rfl, ?_⟩
    (conv => whnf); repeat' ((with_reducible refine Box.mk ?_) <;> conv => whnf)
    refine aDr [5] q5 rfl rfl rfl rfl ?_
    (conv => whnf); (repeat' ((first | (with_reducible first | refine Box.mk ?_ | refine And.intro (fun _ => ?_) (fun _ => ?_) | fail) | ((with_reducible show Exists _); refine ⟨_, ACall.of_pure (by assumption) (by rfl) ⟨rfl, rfl⟩, ?_⟩) | fail) <;> conv => whnf))
    ·refine aW [5] q4 rfl rfl rfl ?_
     (conv => whnf); (repeat' ((with_reducible first | refine Box.mk ?_ | refine And.intro (fun _ => ?_) (fun _ => ?_) | fail) <;> conv => whnf))
     ·rename_i he
      have he : e1 = 0 := he
      subst he
      rw [if_neg (show ¬ (0 : Int) ≠ 0 from fun h => h rfl)] at hz
      have hx := hx rfl
      subst hx
      have hro := hro g b1 rfl
      refine ⟨[(2006, [])], by kernel_rfl, ?_⟩
      (conv => whnf); repeat' ((with_reducible refine Box.mk ?_) <;> conv => whnf)
      refine ⟨fun c hc => by rw [List.mem_singleton.1 hc]; exact ⟨rfl, rfl⟩, by rw [hrl]; show (_ + 1) * 208 ≤ _; omega, by rw [hrl]; show _ + 1 ≤ _; omega, ?_⟩
      (conv => whnf); repeat' ((with_reducible refine Box.mk ?_) <;> conv => whnf)
      refine ⟨(l ++ [g], b1, m), ⟨by show b1.length ≤ m; omega, by show b1.length ≤ _; omega, by show (l ++ [g]).length + b1.length ≤ _; rw [List.length_append]; show l.length + 1 + _ ≤ _; omega, hz⟩, by show b1.length < bs.length; omega, weak_ren_to [(0, true), (1, true), (2, false), (3, true), (4, true), (5, true), (8, true)] rfl rfl ?_ ⟨rfl, rfl, rfl, trivial⟩⟩
      rw [show rcl (l ++ [g]) = rcl l ++ [rcc g] from List.map_append ..]
      rfl
     ·rename_i he
      have he : ¬ e1 = 0 := he
      rw [if_pos he] at hz
      simp only [Prod.mk.injEq] at hz
      obtain ⟨rfl, rfl⟩ := hz
      exact weak_ren_to [(0, true), (1, true), (2, false), (3, true), (6, true)] rfl rfl rfl ⟨rfl, trivial⟩
    ·exfalso; rename_i h; exact h hlt
   ·have hzz : recsF m t.fields bs l = (l, 0) := by
     cases m with
     | zero => rfl
     | succ m => unfold recsF; rw [if_pos (by omega)]
    rw [hzz] at hz
    simp only [Prod.mk.injEq] at hz
    obtain ⟨rfl, rfl⟩ := hz
    (conv => whnf); (repeat' ((with_reducible first | refine Box.mk ?_ | refine And.intro (fun _ => ?_) (fun _ => ?_) | refine (forceH_eq _ _).mpr ?_ | fail) <;> conv => whnf))
    refine ⟨[], by kernel_rfl, ?_⟩
    (conv => whnf); repeat' ((with_reducible refine Box.mk ?_) <;> conv => whnf)
    refine aDr [5] q5 rfl rfl rfl rfl ?_
    (conv => whnf); (repeat' ((first | (with_reducible first | refine Box.mk ?_ | refine And.intro (fun _ => ?_) (fun _ => ?_) | fail) | ((with_reducible show Exists _); refine ⟨_, ACall.of_pure (by assumption) (by rfl) ⟨rfl, rfl⟩, ?_⟩) | fail) <;> conv => whnf))
    ·exfalso; rename_i h; exact hlt h
    exact weak_ren_to [(0, true), (1, true), (2, false), (3, true), (6, true)] rfl rfl rfl ⟨rfl, trivial⟩

set_option maxHeartbeats 8000000 in
theorem records_N (d : Rd Cs) (hn : d.c.nl = true) (id : Nat) (b : Bs) (hI : RI d (b.length + 1)) (hb : b.length ≤ 1000000000) :
  DCall P 75 [.ptr 1 0, .sl (bcl b), .int .i64 (id : Int)] (dN d) (.int .i64 (recordsF opC d id b).2) (qN (recordsF opC d id b).1) := by
 obtain ⟨hc, hd, hlo, hid, hou⟩ := hI
 have q1 := find_ok d.c hc d.dom (id : Int)
 rw [show cH d.c = [.box 67 [.nilm]] by unfold cH; rw [hn]; rfl] at q1
 unfold recordsF
 have wl : IntKind.i64.wrap ((d.lost : Int) + 1) = ((d.lost + 1 : Nat) : Int) := by rw [wrap_i64 (by omega) (by omega)]; omega
 have wi : IntKind.i64.wrap ((d.idle : Int) + 1) = ((d.idle + 1 : Nat) : Int) := by rw [wrap_i64 (by omega) (by omega)]; omega
 rw [show opC.find d.c (d.dom, (id : Int)) = findE d.c.es (d.dom, (id : Int)) from rfl]
 cases hf : findE d.c.es (d.dom, (id : Int)) with
 | none =>
  rw [hf] at q1
  have q1 : DCall P _ _ _ (.tup [ztv, .bool false]) _ := q1
  refine DCall.of_awp tok mixed fn75 (Nat.le_of_ble_eq_true rfl) ?_
  (conv => whnf); repeat' ((with_reducible refine Box.mk ?_) <;> conv => whnf)
  refine ⟨[(14, [3, 8, 10])], by kernel_rfl, ?_⟩
  (conv => whnf); repeat' ((with_reducible refine Box.mk ?_) <;> conv => whnf)
  refine aDr [0] q1 rfl rfl rfl rfl ?_
  (conv => whnf); repeat' ((with_reducible refine Box.mk ?_) <;> conv => whnf)
  refine ⟨⟨⟨rfl, rfl⟩, ⟨rfl, rfl⟩, aW [0] q1 rfl rfl rfl ⟨rfl, rfl⟩, trivial⟩, ?_⟩
  (conv => whnf); repeat' ((with_reducible refine Box.mk ?_) <;> conv => whnf)
  rw [wl]
  exact weak_ren_to [(0, true), (1, true), (2, false), (2, true)] rfl rfl rfl ⟨rfl, trivial⟩
 | some h =>
  rw [hf] at q1
  obtain ⟨⟨en, hen, rfl⟩, hk⟩ := findE_some hf
  obtain ⟨r1, r2, r3⟩ := right_all (hc.right en hen)
  have hsz := sizes_nn r3
  have q1 : DCall P _ _ _ (.tup [.agg [.int .i64 en.1.t.id, .int .i64 en.1.t.scope, .sl (scl en.1.t.fields)], .bool true]) _ := q1
  dsimp only
  generalize en.1.t = t at *
  have q2 := from_sl b hb
  have q3 := fSize_ok t.fields (by omega)
  by_cases hsc : 0 < t.scope
  ·rw [if_pos hsc]
   refine DCall.of_awp tok mixed fn75 (Nat.le_of_ble_eq_true rfl) ?_
   (conv => whnf); repeat' ((with_reducible refine Box.mk ?_) <;> conv => whnf)
   refine ⟨[(14, [3, 8, 10])], by kernel_rfl, ?_⟩
   (conv => whnf); repeat' ((with_reducible refine Box.mk ?_) <;> conv => whnf)
   refine aDr [0] q1 rfl rfl rfl rfl ?_
   (conv => whnf); repeat' ((with_reducible refine Box.mk ?_) <;> conv => whnf)
   refine ⟨⟨⟨rfl, rfl⟩, ⟨rfl, rfl⟩, aW [0] q1 rfl rfl rfl ⟨rfl, rfl⟩, trivial⟩, ?_⟩
   (conv => whnf); (repeat' ((with_reducible first | refine Box.mk ?_ | refine And.intro (fun _ => ?_) (fun _ => ?_) | fail) <;> conv => whnf))
   ·rw [wi]
    exact weak_ren_to [(0, true), (1, true), (2, false), (2, true)] rfl rfl rfl ⟨rfl, trivial⟩
   ·exact absurd hsc (by assumption)
  ·rw [if_neg hsc]
   obtain ⟨z, hz⟩ : ∃ z, recsF b.length t.fields b d.out = z := ⟨_, rfl⟩
   rw [hz]
   have q4 := record_ok t r2
   obtain ⟨o, er⟩ := z
   dsimp only
   refine DCall.of_awp tok mixed fn75 (Nat.le_of_ble_eq_true rfl) ?_
   (conv => whnf); repeat' ((with_reducible refine Box.mk ?_) <;> conv => whnf)
   refine ⟨[(14, [3, 8, 10])], by kernel_rfl, ?_⟩
   (conv => whnf); repeat' ((with_reducible refine Box.mk ?_) <;> conv => whnf)
   refine aDr [0] q1 rfl rfl rfl rfl ?_
   (conv => whnf); repeat' ((with_reducible refine Box.mk ?_) <;> conv => whnf)
   refine ⟨⟨⟨rfl, rfl⟩, ⟨rfl, rfl⟩, aW [0] q1 rfl rfl rfl ⟨rfl, rfl⟩, trivial⟩, ?_⟩
   (conv => whnf); (repeat' ((with_reducible first | refine Box.mk ?_ | refine And.intro (fun _ => ?_) (fun _ => ?_) | fail) <;> conv => whnf))
   ·exact absurd (by assumption) hsc
   refine aW [] q2 rfl rfl rfl ?_
   (conv => whnf); repeat' ((with_reducible refine Box.mk ?_) <;> conv => whnf)
   refine aloop (fun x : List Rc × Bs × Nat => x.2.1.length ≤ x.2.2 ∧ x.2.1.length ≤ 1000000000 ∧ x.1.length + x.2.1.length ≤ 2000000000 ∧ recsF x.2.2 t.fields x.2.1 x.1 = (o, er))
    (fun x => ⟨envL [(0, .ptr 1 0), (7, .ptr 3 0), (9, .ptr 4 0)], [.box 67 [.nilm], rdK d 5, .dead, .box 58 [.int .i64 t.id, .int .i64 t.scope, .sl (scl t.fields)], .box 140 [.bool true, .sl (bcl x.2.1), .int .i64 0], .row 55 22 (rcl x.1)]⟩)
    (fun x => x.2.1.length) (d.out, b, b.length) ⟨Nat.le_refl _, hb, by show d.out.length + b.length ≤ _; omega, hz⟩ (weak_ren_to [(0, true), (1, true), (2, false), (3, true), (4, true), (2, true)] rfl rfl rfl ⟨rfl, rfl, rfl, trivial⟩) ?_
   clear hz
   rintro ⟨l, bs, m⟩ ⟨hm, hbs, hol, hz⟩
   dsimp only at hm hbs hol hz ⊢
   have q5 := rLeft0 bs
   by_cases hlt : sizesF t.fields ≤ (bs.length : Int)
   ·obtain ⟨m, rfl⟩ : ∃ k, m = k + 1 := ⟨m - 1, by omega⟩
    have q4 := q4 bs hbs
    have hro := fun (g : Rc) (b1 : Bs) => rec_eat (fs := t.fields) (bs := bs) (f := zeroR) (g := g) (b1 := b1)
    have hx := recX_ok t.fields bs zeroR
    unfold recsF at hz
    rw [if_neg (by omega)] at hz
    generalize recX t.fields bs zeroR = ex at *
    generalize recF t.fields bs zeroR = y at *
    obtain ⟨g, e1, b1⟩ := y
    dsimp only at q4 hro hx hz
    have q4 : DCall P _ [.ptr 0 0, .agg [.int .i64 t.id, .int .i64 t.scope, .sl (scl t.fields)]] _ (.tup [.agg (rcc g), .int .i64 e1]) _ := q4
    have hrl := rcl_len l
    (conv => whnf); (repeat' ((with_reducible first | refine Box.mk ?_ | refine And.intro (fun _ => ?_) (fun _ => ?_) | refine (forceH_eq _ _).mpr ?_ | fail) <;> conv => whnf))
    refine ⟨[], by kernel_rfl, ?_⟩
    (conv => whnf); repeat' ((with_reducible refine Box.mk ?_) <;> conv => whnf)
    refine aDr [4] q5 rfl rfl rfl rfl ?_
    (conv => whnf); (repeat' ((first | (with_reducible first | refine Box.mk ?_ | refine And.intro (fun _ => ?_) (fun _ => ?_) | fail) | ((with_reducible show Exists _); refine ⟨_, ACall.of_pure (by assumption) (by rfl) ⟨rfl, rfl⟩, ?_⟩) | fail) <;> conv => whnf))
    ·refine aW [4] q4 rfl rfl rfl ?_
     (conv => whnf); (repeat' ((with_reducible first | refine Box.mk ?_ | refine And.intro (fun _ => ?_) (fun _ => ?_) | fail) <;> conv => whnf))
     ·rename_i he
      have he : e1 = 0 := he
      subst he
      rw [if_neg (show ¬ (0 : Int) ≠ 0 from fun h => h rfl)] at hz
      have hx := hx rfl
      subst hx
      have hro := hro g b1 rfl
      refine ⟨[(2006, [])], by kernel_rfl, ?_⟩
      (conv => whnf); repeat' ((with_reducible refine Box.mk ?_) <;> conv => whnf)
      refine ⟨fun c hc => by rw [List.mem_singleton.1 hc]; exact ⟨rfl, rfl⟩, by rw [hrl]; show (_ + 1) * 208 ≤ _; omega, by rw [hrl]; show _ + 1 ≤ _; omega, ?_⟩
      (conv => whnf); repeat' ((with_reducible refine Box.mk ?_) <;> conv => whnf)
      refine ⟨(l ++ [g], b1, m), ⟨by show b1.length ≤ m; omega, by show b1.length ≤ _; omega, by show (l ++ [g]).length + b1.length ≤ _; rw [List.length_append]; show l.length + 1 + _ ≤ _; omega, hz⟩, by show b1.length < bs.length; omega, weak_ren_to [(0, true), (1, true), (2, false), (3, true), (4, true), (7, true)] rfl rfl ?_ ⟨rfl, rfl, rfl, trivial⟩⟩
      rw [show rcl (l ++ [g]) = rcl l ++ [rcc g] from List.map_append ..]
      rfl
     ·rename_i he
      have he : ¬ e1 = 0 := he
      rw [if_pos he] at hz
      simp only [Prod.mk.injEq] at hz
      obtain ⟨rfl, rfl⟩ := hz
      exact weak_ren_to [(0, true), (1, true), (2, false), (5, true)] rfl rfl rfl ⟨rfl, trivial⟩
    ·exfalso; rename_i h; exact h hlt
   ·have hzz : recsF m t.fields bs l = (l, 0) := by
     cases m with
     | zero => rfl
     | succ m => unfold recsF; rw [if_pos (by omega)]
    rw [hzz] at hz
    simp only [Prod.mk.injEq] at hz
    obtain ⟨rfl, rfl⟩ := hz
    (conv => whnf); (repeat' ((with_reducible first | refine Box.mk ?_ | refine And.intro (fun _ => ?_) (fun _ => ?_) | refine (forceH_eq _ _).mpr ?_ | fail) <;> conv => whnf))
    refine ⟨[], by kernel_rfl, ?_⟩
    (conv => whnf); repeat' ((with_reducible refine Box.mk ?_) <;> conv => whnf)
    refine aDr [4] q5 rfl rfl rfl rfl ?_
    (conv => whnf); (repeat' ((first | (with_reducible first | refine Box.mk ?_ | refine And.intro (fun _ => ?_) (fun _ => ?_) | fail) | ((with_reducible show Exists _); refine ⟨_, ACall.of_pure (by assumption) (by rfl) ⟨rfl, rfl⟩, ?_⟩) | fail) <;> conv => whnf))
    ·exfalso; rename_i h; exact hlt h
    exact weak_ren_to [(0, true), (1, true), (2, false), (5, true)] rfl rfl rfl ⟨rfl, trivial⟩
end Go.Proofs.YtnajpmepcffnaaaGreatDoor
end

section
/- ipfix: a set, and sets, read. -/
namespace Go.Proofs.YtnajpmepcffnaaaGreatDoor
open Go.Ve

theorem set_saysF (d : Rd Cs) (hn : d.c.nl = false) (id : Nat) (hid : id < 65536) (b : Bs) (hI : RI d (b.length + 1)) (hb : b.length ≤ 1000000000) :
  DCall P 47 [.ptr 1 0, .int .i64 (id : Int), .sl (bcl b)] (dF d) (.int .i64 (setF opC d id b).2) (qF (setF opC d id b).1) := by
 have q1 := tmpls_F d hn hI.ci hI.dom true b hb
 have q2 := tmpls_F d hn hI.ci hI.dom false b hb
 have q3 := records_F d hn id b hI hb
 have hrn : (recordsF opC d id b).1.c.nl = false := by
  unfold recordsF
  split
  ·exact hn
  ·split
   ·exact hn
   ·exact hn
 unfold setF
 generalize tmplsF opC b.length d.c d.dom true b = z1 at *
 generalize tmplsF opC b.length d.c d.dom false b = z2 at *
 generalize recordsF opC d id b = z3 at *
 obtain ⟨c1, e1⟩ := z1
 obtain ⟨c2, e2⟩ := z2
 obtain ⟨d3, e3⟩ := z3
 dsimp only at q1 q2 q3 hrn ⊢
 refine DCall.of_awp tok mixed fn47 (Nat.le_of_ble_eq_true rfl) ?_
 (conv => whnf); (repeat' ((with_reducible first | refine Box.mk ?_ | refine And.intro (fun _ => ?_) (fun _ => ?_) | fail) <;> conv => whnf))
 ·rename_i h3
  rw [if_pos (show id = 3 by omega)]
  refine aW [0, 1, 2, 3] q1 rfl rfl rfl ?_
  (conv => whnf); repeat' ((with_reducible refine Box.mk ?_) <;> conv => whnf)
  exact weak_ren_to [(0, true), (1, true), (2, false), (3, true), (2, true)] rfl rfl rfl ⟨rfl, trivial⟩
 ·rename_i h3 h2
  rw [if_neg (show ¬ id = 3 by omega), if_pos (show id = 2 by omega)]
  refine aW [0, 1, 2, 3] q2 rfl rfl rfl ?_
  (conv => whnf); repeat' ((with_reducible refine Box.mk ?_) <;> conv => whnf)
  exact weak_ren_to [(0, true), (1, true), (2, false), (3, true), (2, true)] rfl rfl rfl ⟨rfl, trivial⟩
 ·rename_i h3 h2 h1
  rw [if_neg (show ¬ id = 3 by omega), if_neg (show ¬ id = 2 by omega), if_pos (show id < 256 by omega)]
  exact weak_ren_to [(0, true), (1, true), (2, false), (3, true), (2, true)] rfl rfl rfl ⟨rfl, trivial⟩
 ·rename_i h3 h2 h1
  rw [if_neg (show ¬ id = 3 by omega), if_neg (show ¬ id = 2 by omega), if_neg (show ¬ id < 256 by omega)]
  refine aW [0, 1, 2, 3] q3 rfl rfl rfl ?_
  (conv => whnf); repeat' ((with_reducible refine Box.mk ?_) <;> conv => whnf)
  exact weak_ren_to [(0, true), (1, true), (2, false), (3, true), (4, true)] rfl rfl rfl ⟨rfl, trivial⟩

theorem set_saysN (d : Rd Cs) (hn : d.c.nl = true) (id : Nat) (hid : id < 65536) (b : Bs) (hI : RI d (b.length + 1)) (hb : b.length ≤ 1000000000) :
  DCall P 47 [.ptr 1 0, .int .i64 (id : Int), .sl (bcl b)] (dN d) (.int .i64 (setF opC d id b).2) (qH (setF opC d id b).1) := by
 have q1 := tmpls_N d hn hI.ci hI.dom true b hb
 have q2 := tmpls_N d hn hI.ci hI.dom false b hb
 have q3 := records_N d hn id b hI hb
 have hrn : (recordsF opC d id b).1.c.nl = true := by
  unfold recordsF
  split
  ·exact hn
  ·split
   ·exact hn
   ·exact hn
 unfold setF
 generalize tmplsF opC b.length d.c d.dom true b = z1 at *
 generalize tmplsF opC b.length d.c d.dom false b = z2 at *
 generalize recordsF opC d id b = z3 at *
 obtain ⟨c1, e1⟩ := z1
 obtain ⟨c2, e2⟩ := z2
 obtain ⟨d3, e3⟩ := z3
 dsimp only at q1 q2 q3 hrn ⊢
 refine DCall.of_awp tok mixed fn47 (Nat.le_of_ble_eq_true rfl) ?_
 (conv => whnf); (repeat' ((with_reducible first | refine Box.mk ?_ | refine And.intro (fun _ => ?_) (fun _ => ?_) | fail) <;> conv => whnf))
 ·rename_i h3
  rw [if_pos (show id = 3 by omega)]
  clear hrn
  obtain ⟨nl1, es1, clk1⟩ := c1
  cases nl1
  ·have q0 : DCall P _ _ _ _ (dF { d with c := ⟨false, es1, clk1⟩ }) := q1
   refine aW [0, 1, 2] q0 rfl rfl rfl ?_
   (conv => whnf); repeat' ((with_reducible refine Box.mk ?_) <;> conv => whnf)
   exact weak_ren_to [(0, true), (1, true), (2, false), (2, true), (3, true)] rfl rfl rfl ⟨rfl, trivial⟩
  ·have q0 : DCall P _ _ _ _ (dN { d with c := ⟨true, es1, clk1⟩ }) := q1
   refine aW [0, 1, 2] q0 rfl rfl rfl ?_
   (conv => whnf); repeat' ((with_reducible refine Box.mk ?_) <;> conv => whnf)
   exact weak_ren_to [(0, true), (1, true), (2, false), (2, true)] rfl rfl rfl ⟨rfl, trivial⟩
 ·rename_i h3 h2
  rw [if_neg (show ¬ id = 3 by omega), if_pos (show id = 2 by omega)]
  clear hrn
  obtain ⟨nl1, es1, clk1⟩ := c2
  cases nl1
  ·have q0 : DCall P _ _ _ _ (dF { d with c := ⟨false, es1, clk1⟩ }) := q2
   refine aW [0, 1, 2] q0 rfl rfl rfl ?_
   (conv => whnf); repeat' ((with_reducible refine Box.mk ?_) <;> conv => whnf)
   exact weak_ren_to [(0, true), (1, true), (2, false), (2, true), (3, true)] rfl rfl rfl ⟨rfl, trivial⟩
  ·have q0 : DCall P _ _ _ _ (dN { d with c := ⟨true, es1, clk1⟩ }) := q2
   refine aW [0, 1, 2] q0 rfl rfl rfl ?_
   (conv => whnf); repeat' ((with_reducible refine Box.mk ?_) <;> conv => whnf)
   exact weak_ren_to [(0, true), (1, true), (2, false), (2, true)] rfl rfl rfl ⟨rfl, trivial⟩
 ·rename_i h3 h2 h1
  rw [if_neg (show ¬ id = 3 by omega), if_neg (show ¬ id = 2 by omega), if_pos (show id < 256 by omega)]
  unfold qH; rw [hn]; exact weak_ren_to [(0, true), (1, true), (2, false), (2, true)] rfl rfl rfl ⟨rfl, trivial⟩
 ·rename_i h3 h2 h1
  rw [if_neg (show ¬ id = 3 by omega), if_neg (show ¬ id = 2 by omega), if_neg (show ¬ id < 256 by omega)]
  refine aW [0, 1, 2] q3 rfl rfl rfl ?_
  (conv => whnf); repeat' ((with_reducible refine Box.mk ?_) <;> conv => whnf)
  unfold qH; rw [hrn]; exact weak_ren_to [(0, true), (1, true), (2, false), (3, true)] rfl rfl rfl ⟨rfl, trivial⟩
end Go.Proofs.YtnajpmepcffnaaaGreatDoor
end

section
/- ipfix: sets, read. -/
namespace Go.Proofs.YtnajpmepcffnaaaGreatDoor
open Go.Ve

theorem RI.mono {d : Rd Cs} {j k : Nat} (h : RI d k) (hj : j ≤ k) : RI d j := ⟨h.ci, h.dom, by have := h.lost; omega, by have := h.idle; omega, by have := h.out; omega⟩
theorem rawF_few {n : Nat} {bs : Bs} (h : bs.length < n) : rawF (n : Nat) bs 0 = ([], bs, 8) := by
 unfold rawF
 rw [decide_eq_true (by omega), mst_ok, if_neg (fun h => h rfl), if_pos (by omega)]
theorem sets_chain {bs x1 b1 x2 b2 x4 b4 : Bs} {e1 e2 e4 : Int} (h1 : rawF 2 bs 0 = (x1, b1, e1)) (h2 : rawF 2 b1 e1 = (x2, b2, e2)) (h4 : rawF ((valB x2 : Int) - 4) b2 (mustE e2 (decide (4 ≤ valB x2))) = (x4, b4, e4)) (hne : bs ≠ []) (m : Nat) (d : Rd Cs) :
  (e4 ≠ 0 → setsF opC (m + 1) d bs = (d, e4)) ∧ (e4 = 0 → x4.length + b4.length + 4 = bs.length ∧ setsF opC (m + 1) d bs = (match setF opC d (valB x1) x4 with | (d1, er) => if er ≠ 0 then (d1, er) else setsF opC m d1 b4)) := by
 have hl : 0 < bs.length := List.length_pos_iff.2 hne
 have r2 : ((2 : Nat) : Int) = 2 := rfl
 by_cases k2 : bs.length < 4
 ·have hs : setsF opC (m + 1) d bs = (d, 8) := by unfold setsF; rw [if_neg hne, if_pos k2]
  rw [hs]
  have he2 : e2 = 8 ∧ x2 = [] := by
   by_cases k1 : bs.length < 2
   ·rw [← r2, rawF_few k1] at h1
    simp only [Prod.mk.injEq] at h1
    obtain ⟨rfl, rfl, rfl⟩ := h1
    rw [rawF_bad (by decide)] at h2
    simp only [Prod.mk.injEq] at h2
    exact ⟨h2.2.2.symm, h2.1.symm⟩
   ·rw [← r2, rawF_yes (by omega)] at h1
    simp only [Prod.mk.injEq] at h1
    obtain ⟨rfl, rfl, rfl⟩ := h1
    rw [← r2, rawF_few (by rw [List.length_drop]; omega)] at h2
    simp only [Prod.mk.injEq] at h2
    exact ⟨h2.2.2.symm, h2.1.symm⟩
  obtain ⟨rfl, rfl⟩ := he2
  rw [mst_err (by decide), rawF_bad (by decide)] at h4
  simp only [Prod.mk.injEq] at h4
  obtain ⟨_, _, rfl⟩ := h4
  exact ⟨fun _ => rfl, fun h => absurd h (by decide)⟩
 ·rw [← r2, rawF_yes (by omega)] at h1
  simp only [Prod.mk.injEq] at h1
  obtain ⟨rfl, rfl, rfl⟩ := h1
  rw [← r2, rawF_yes (by rw [List.length_drop]; omega)] at h2
  simp only [Prod.mk.injEq] at h2
  obtain ⟨rfl, rfl, rfl⟩ := h2
  rw [List.drop_drop] at h4
  have hs : setsF opC (m + 1) d bs = (if cntB bs < 4 then (d, 3) else if bs.length < cntB bs then (d, 8) else match setF opC d (idB bs) ((bs.drop 4).take (cntB bs - 4)) with | (d1, er) => if er ≠ 0 then (d1, er) else setsF opC m d1 (bs.drop (cntB bs))) := by
   conv => lhs; unfold setsF
   rw [if_neg hne, if_neg k2]
  rw [hs]
  have h4 : rawF ((cntB bs : Int) - 4) (bs.drop 4) (mustE 0 (decide (4 ≤ cntB bs))) = (x4, b4, e4) := h4
  show _ ∧ (_ → _ ∧ _ = (match setF opC d (idB bs) x4 with | (d1, er) => if er ≠ 0 then (d1, er) else setsF opC m d1 b4))
  generalize cntB bs = n at *
  generalize idB bs = i at *
  by_cases k3 : n < 4
  ·rw [if_pos k3]
   rw [decide_eq_false (by omega)] at h4
   have e3 : mustE 0 false = 3 := rfl
   rw [e3, rawF_bad (by decide)] at h4
   simp only [Prod.mk.injEq] at h4
   obtain ⟨_, _, rfl⟩ := h4
   exact ⟨fun _ => rfl, fun h => absurd h (by decide)⟩
  ·rw [if_neg k3]
   rw [decide_eq_true (by omega), mst_ok, show (n : Int) - 4 = ((n - 4 : Nat) : Int) by omega] at h4
   by_cases k4 : bs.length < n
   ·rw [if_pos k4]
    rw [rawF_few (by rw [List.length_drop]; omega)] at h4
    simp only [Prod.mk.injEq] at h4
    obtain ⟨_, _, rfl⟩ := h4
    exact ⟨fun _ => rfl, fun h => absurd h (by decide)⟩
   ·rw [if_neg k4]
    rw [rawF_yes (by rw [List.length_drop]; omega)] at h4
    simp only [Prod.mk.injEq] at h4
    obtain ⟨rfl, rfl, rfl⟩ := h4
    refine ⟨fun h => absurd rfl h, fun _ => ⟨?_, ?_⟩⟩
    ·simp only [List.length_take, List.length_drop]; omega
    ·rw [List.drop_drop, show 4 + (n - 4) = n by omega]
theorem sets_nil (m : Nat) (d : Rd Cs) : setsF opC m d [] = (d, 0) := by
 cases m with
 | zero => rfl
 | succ m => unfold setsF; rw [if_pos rfl]
theorem raw_any {n : Int} {bs x r : Bs} {e e' : Int} (h : rawF n bs e = (x, r, e')) : r.length ≤ bs.length ∧ x.length ≤ bs.length := by
 have h1 := raw_rest n bs e
 have h2 := raw_le n bs e
 rw [h] at h1 h2
 exact ⟨h1, h2⟩

set_option maxHeartbeats 8000000 in
theorem sets_F (d : Rd Cs) (hn : d.c.nl = false) (b : Bs) (hI : RI d b.length) (hb : b.length ≤ 1000000000) :
  DCall P 22 [.ptr 1 0, .sl (bcl b)] (dF d) (.int .i64 (setsF opC b.length d b).2) (qF (setsF opC b.length d b).1) := by
 have q0 := from_sl b hb
 obtain ⟨z, hz⟩ : ∃ z, setsF opC b.length d b = z := ⟨_, rfl⟩
 rw [hz]
 obtain ⟨d9, er9⟩ := z
 dsimp only
 refine DCall.of_awp tok mixed fn22 (Nat.le_of_ble_eq_true rfl) ?_
 (conv => whnf); repeat' ((with_reducible refine Box.mk ?_) <;> conv => whnf)
 refine aW [] q0 rfl rfl rfl ?_
 (conv => whnf); repeat' ((with_reducible refine Box.mk ?_) <;> conv => whnf)
 refine aloop (fun x : Rd Cs × Bs × Nat => x.1.c.nl = false ∧ RI x.1 x.2.1.length ∧ x.2.1.length ≤ x.2.2 ∧ x.2.1.length ≤ 1000000000 ∧ setsF opC x.2.2 x.1 x.2.1 = (d9, er9))
  (fun x => ⟨envL [(0, .ptr 1 0), (5, .ptr 4 0), (6, .int .i64 0)], [.box 67 [.own 3], rdK x.1 5, .dead, .map pk2 (ces x.1.c.es) x.1.c.clk, .box 140 [.bool true, .sl (bcl x.2.1), .int .i64 0], rdR x.1]⟩)
  (fun x => x.2.1.length) (d, b, b.length) ⟨hn, hI, Nat.le_refl _, hb, hz⟩ (weak_ren_to [(0, true), (1, true), (2, false), (3, true), (4, true), (2, true)] rfl rfl rfl ⟨rfl, rfl, rfl, trivial⟩) ?_
 clear hz hI hn hb
 rintro ⟨d, bs, m⟩ ⟨hn, hI, hm, hbs, hz⟩
 dsimp only at hn hI hm hbs hz ⊢
 have q1 := rLeft0 bs
 by_cases hne : bs = []
 ·subst hne
  rw [sets_nil] at hz
  simp only [Prod.mk.injEq] at hz
  obtain ⟨rfl, rfl⟩ := hz
  (conv => whnf); repeat' ((with_reducible refine Box.mk ?_) <;> conv => whnf)
  refine aW [4] q1 rfl rfl rfl ?_
  (conv => whnf); (repeat' ((with_reducible first | refine Box.mk ?_ | refine And.intro (fun _ => ?_) (fun _ => ?_) | fail) <;> conv => whnf))
  ·exfalso; rename_i h; exact absurd h (by decide)
  exact weak_ren_to [(0, true), (1, true), (2, false), (3, true), (5, true)] rfl rfl rfl ⟨rfl, trivial⟩
 ·obtain ⟨m, rfl⟩ : ∃ k, m = k + 1 := ⟨m - 1, by have := List.length_pos_iff.2 hne; omega⟩
  have hpos := List.length_pos_iff.2 hne
  rcases h1 : rawF 2 bs 0 with ⟨x1, b1, e1⟩
  have a1 := raw_any h1
  rcases h2 : rawF 2 b1 e1 with ⟨x2, b2, e2⟩
  have a2 := raw_any h2
  rcases h4 : rawF ((valB x2 : Int) - 4) b2 (mustE e2 (decide (4 ≤ valB x2))) with ⟨x4, b4, e4⟩
  have a4 := raw_any h4
  obtain ⟨hbad, hgood⟩ := sets_chain h1 h2 h4 hne m d
  have v1 : valB x1 < 65536 := by have := raw_val 2 65536 bs 0 rfl; rw [show (((2 : Nat) : Nat) : Int) = 2 from rfl, h1] at this; exact this
  have v2 : valB x2 < 65536 := by have := raw_val 2 65536 b1 e1 rfl; rw [show (((2 : Nat) : Nat) : Int) = 2 from rfl, h2] at this; exact this
  have q2 := rNum_ok bs 0 2 hbs
  rw [show ((szN 2 : Nat) : Int) = 2 from rfl, h1] at q2
  have q3 := rNum_ok b1 e1 2 (by omega)
  rw [show ((szN 2 : Nat) : Int) = 2 from rfl, h2] at q3
  have q4 : ∀ x, decide (4 ≤ valB x2) = x → DCall P 44 [.ptr 0 0, .bool x] (rH b2 e2) (mkRes []) (rH b2 (mustE e2 (decide (4 ≤ valB x2)))) := fun x hx => by subst hx; exact rMust_ok b2 e2 _
  have q5 := rRaw_ok b2 (mustE e2 (decide (4 ≤ valB x2))) ((valB x2 : Int) - 4) (by omega)
  rw [h4] at q5
  have q6 := rErr_ok b4 e4
  dsimp only at q2 q3 q5
  generalize mustE e2 (decide (4 ≤ valB x2)) = e3 at *
  have w1 : IntKind.i64.wrap (valB x1 : Int) = valB x1 := wrap_i64 (by omega) (by omega)
  have w2 : IntKind.i64.wrap (valB x2 : Int) = valB x2 := wrap_i64 (by omega) (by omega)
  have w3 : IntKind.i64.wrap ((valB x2 : Int) - 4) = (valB x2 : Int) - 4 := wrap_i64 (by omega) (by omega)
  clear h1 h2 h4
  generalize valB x1 = id at *
  generalize valB x2 = n at *
  by_cases he : e4 = 0
  ·subst he
   obtain ⟨hlen, hgood⟩ := hgood rfl
   rw [hgood] at hz
   have q7 := set_saysF d hn id v1 x4 (hI.mono (by omega)) (by omega)
   have hI2 := hI.set (j := b4.length) id x4 (by omega)
   have hn2 := nl_setF hn id x4
   generalize setF opC d id x4 = y at *
   obtain ⟨d1, er⟩ := y
   dsimp only at q7 hI2 hn2 hz
   (conv => whnf); repeat' ((with_reducible refine Box.mk ?_) <;> conv => whnf)
   refine aW [4] q1 rfl rfl rfl ?_
   (conv => whnf); (repeat' ((with_reducible first | refine Box.mk ?_ | refine And.intro (fun _ => ?_) (fun _ => ?_) | fail) <;> conv => whnf))
   rotate_left
   ·exfalso; rename_i h; have h : ¬ (0 : Int) < (bs.length : Int) := h; omega
   refine aW [4] q2 rfl rfl rfl ?_
   (conv => whnf); repeat' ((with_reducible refine Box.mk ?_) <;> conv => whnf)
   refine aW [4] q3 rfl rfl rfl ?_
   (conv => whnf); (repeat' ((with_reducible first | refine Box.mk ?_ | refine And.intro (fun _ => ?_) (fun _ => ?_) | fail) <;> conv => whnf))
   all_goals (
    rw [w1, w2]
    first
     | (refine aW [4] (q4 true (decide_eq_true (by omega))) rfl rfl rfl ?_)
     | (refine aW [4] (q4 false (decide_eq_false (by omega))) rfl rfl rfl ?_)
    (conv => whnf); repeat' ((with_reducible refine Box.mk ?_) <;> conv => whnf)
    rw [w3]
    refine aW [4] q5 rfl rfl rfl ?_
    (conv => whnf); repeat' ((with_reducible refine Box.mk ?_) <;> conv => whnf)
    refine aW [4] q6 rfl rfl rfl ?_
    (conv => whnf); (repeat' ((with_reducible first | refine Box.mk ?_ | refine And.intro (fun _ => ?_) (fun _ => ?_) | fail) <;> conv => whnf))
    rotate_left
    ·exact absurd rfl (by assumption)
    refine aW [0, 1, 5, 3] q7 rfl rfl rfl ?_
    (conv => whnf); (repeat' ((with_reducible first | refine Box.mk ?_ | refine And.intro (fun _ => ?_) (fun _ => ?_) | fail) <;> conv => whnf))
    ·rename_i h0
     have h0 : er = 0 := h0
     subst h0
     rw [if_neg (show ¬ (0 : Int) ≠ 0 from fun h => h rfl)] at hz
     exact ⟨(d1, b4, m), ⟨hn2, hI2, by show b4.length ≤ m; omega, by show b4.length ≤ _; omega, hz⟩, by show b4.length < bs.length; omega, weak_ren_to [(0, true), (1, true), (2, false), (3, true), (4, true), (6, true)] rfl rfl rfl ⟨rfl, rfl, rfl, trivial⟩⟩
    ·rename_i h0
     rw [if_pos h0] at hz
     simp only [Prod.mk.injEq] at hz
     obtain ⟨rfl, rfl⟩ := hz
     exact weak_ren_to [(0, true), (1, true), (2, false), (3, true), (6, true)] rfl rfl rfl ⟨rfl, trivial⟩)
  ·rw [hbad he] at hz
   simp only [Prod.mk.injEq] at hz
   obtain ⟨rfl, rfl⟩ := hz
   (conv => whnf); repeat' ((with_reducible refine Box.mk ?_) <;> conv => whnf)
   refine aW [4] q1 rfl rfl rfl ?_
   (conv => whnf); (repeat' ((with_reducible first | refine Box.mk ?_ | refine And.intro (fun _ => ?_) (fun _ => ?_) | fail) <;> conv => whnf))
   rotate_left
   ·exfalso; rename_i h; have h : ¬ (0 : Int) < (bs.length : Int) := h; omega
   refine aW [4] q2 rfl rfl rfl ?_
   (conv => whnf); repeat' ((with_reducible refine Box.mk ?_) <;> conv => whnf)
   refine aW [4] q3 rfl rfl rfl ?_
   (conv => whnf); (repeat' ((with_reducible first | refine Box.mk ?_ | refine And.intro (fun _ => ?_) (fun _ => ?_) | fail) <;> conv => whnf))
   all_goals (
    rw [w1, w2]
    first
     | (refine aW [4] (q4 true (decide_eq_true (by omega))) rfl rfl rfl ?_)
     | (refine aW [4] (q4 false (decide_eq_false (by omega))) rfl rfl rfl ?_)
    (conv => whnf); repeat' ((with_reducible refine Box.mk ?_) <;> conv => whnf)
    rw [w3]
    refine aW [4] q5 rfl rfl rfl ?_
    (conv => whnf); repeat' ((with_reducible refine Box.mk ?_) <;> conv => whnf)
    refine aW [4] q6 rfl rfl rfl ?_
    (conv => whnf); (repeat' ((with_reducible first | refine Box.mk ?_ | refine And.intro (fun _ => ?_) (fun _ => ?_) | fail) <;> conv => whnf))
    ·exact absurd (by assumption) he
    exact weak_ren_to [(0, true), (1, true), (2, false), (3, true), (5, true)] rfl rfl rfl ⟨rfl, trivial⟩)
def uN (d : Rd Cs) (bs : Bs) : Hp := [.box 67 [.nilm], rdK d 4, .dead, .box 140 [.bool true, .sl (bcl bs), .int .i64 0], rdR d]
def uM (d : Rd Cs) (bs : Bs) : Hp := [.box 67 [.own 5], rdK d 4, .dead, .box 140 [.bool true, .sl (bcl bs), .int .i64 0], rdR d, .map pk2 (ces d.c.es) d.c.clk]
def uH (d : Rd Cs) (bs : Bs) : Hp := bif d.c.nl then uN d bs else uM d bs

set_option maxHeartbeats 8000000 in
theorem sets_N (d : Rd Cs) (hn : d.c.nl = true) (b : Bs) (hI : RI d b.length) (hb : b.length ≤ 1000000000) :
  DCall P 22 [.ptr 1 0, .sl (bcl b)] (dN d) (.int .i64 (setsF opC b.length d b).2) (qH (setsF opC b.length d b).1) := by
 have q0 := from_sl b hb
 obtain ⟨z, hz⟩ : ∃ z, setsF opC b.length d b = z := ⟨_, rfl⟩
 rw [hz]
 obtain ⟨d9, er9⟩ := z
 dsimp only
 refine DCall.of_awp tok mixed fn22 (Nat.le_of_ble_eq_true rfl) ?_
 (conv => whnf); repeat' ((with_reducible refine Box.mk ?_) <;> conv => whnf)
 refine aW [] q0 rfl rfl rfl ?_
 (conv => whnf); repeat' ((with_reducible refine Box.mk ?_) <;> conv => whnf)
 refine aloop (fun x : Rd Cs × Bs × Nat => RI x.1 x.2.1.length ∧ x.2.1.length ≤ x.2.2 ∧ x.2.1.length ≤ 1000000000 ∧ setsF opC x.2.2 x.1 x.2.1 = (d9, er9))
  (fun x => ⟨envL [(0, .ptr 1 0), (5, .ptr 3 0), (6, .int .i64 0)], uH x.1 x.2.1⟩)
  (fun x => x.2.1.length) (d, b, b.length) ⟨hI, Nat.le_refl _, hb, hz⟩ (by unfold uH; rw [hn]; exact weak_ren_to [(0, true), (1, true), (2, false), (3, true), (2, true)] rfl rfl rfl ⟨rfl, rfl, rfl, trivial⟩) ?_
 clear hz hI hn hb
 rintro ⟨d, bs, m⟩ ⟨hI, hm, hbs, hz⟩
 dsimp only at hI hm hbs hz ⊢
 have q1 := rLeft0 bs
 obtain ⟨⟨nl, es, clk⟩, ti, sq, dm, lo, il, ou⟩ := d
 cases nl
 ·by_cases hne : bs = []
  ·subst hne
   rw [sets_nil] at hz
   simp only [Prod.mk.injEq] at hz
   obtain ⟨rfl, rfl⟩ := hz
   (conv => whnf); repeat' ((with_reducible refine Box.mk ?_) <;> conv => whnf)
   refine aW [3] q1 rfl rfl rfl ?_
   (conv => whnf); (repeat' ((with_reducible first | refine Box.mk ?_ | refine And.intro (fun _ => ?_) (fun _ => ?_) | fail) <;> conv => whnf))
   ·exfalso; rename_i h; exact absurd h (by decide)
   exact weak_ren_to [(0, true), (1, true), (2, false), (4, true), (5, true)] rfl rfl rfl ⟨rfl, trivial⟩
  ·obtain ⟨m, rfl⟩ : ∃ k, m = k + 1 := ⟨m - 1, by have := List.length_pos_iff.2 hne; omega⟩
   have hpos := List.length_pos_iff.2 hne
   rcases h1 : rawF 2 bs 0 with ⟨x1, b1, e1⟩
   have a1 := raw_any h1
   rcases h2 : rawF 2 b1 e1 with ⟨x2, b2, e2⟩
   have a2 := raw_any h2
   rcases h4 : rawF ((valB x2 : Int) - 4) b2 (mustE e2 (decide (4 ≤ valB x2))) with ⟨x4, b4, e4⟩
   have a4 := raw_any h4
   obtain ⟨hbad, hgood⟩ := sets_chain h1 h2 h4 hne m ⟨⟨false, es, clk⟩, ti, sq, dm, lo, il, ou⟩
   have v1 : valB x1 < 65536 := by have := raw_val 2 65536 bs 0 rfl; rw [show (((2 : Nat) : Nat) : Int) = 2 from rfl, h1] at this; exact this
   have v2 : valB x2 < 65536 := by have := raw_val 2 65536 b1 e1 rfl; rw [show (((2 : Nat) : Nat) : Int) = 2 from rfl, h2] at this; exact this
   have q2 := rNum_ok bs 0 2 hbs
   rw [show ((szN 2 : Nat) : Int) = 2 from rfl, h1] at q2
   have q3 := rNum_ok b1 e1 2 (by omega)
   rw [show ((szN 2 : Nat) : Int) = 2 from rfl, h2] at q3
   have q4 : ∀ x, decide (4 ≤ valB x2) = x → DCall P 44 [.ptr 0 0, .bool x] (rH b2 e2) (mkRes []) (rH b2 (mustE e2 (decide (4 ≤ valB x2)))) := fun x hx => by subst hx; exact rMust_ok b2 e2 _
   have q5 := rRaw_ok b2 (mustE e2 (decide (4 ≤ valB x2))) ((valB x2 : Int) - 4) (by omega)
   rw [h4] at q5
   have q6 := rErr_ok b4 e4
   dsimp only at q2 q3 q5
   generalize mustE e2 (decide (4 ≤ valB x2)) = e3 at *
   have w1 : IntKind.i64.wrap (valB x1 : Int) = valB x1 := wrap_i64 (by omega) (by omega)
   have w2 : IntKind.i64.wrap (valB x2 : Int) = valB x2 := wrap_i64 (by omega) (by omega)
   have w3 : IntKind.i64.wrap ((valB x2 : Int) - 4) = (valB x2 : Int) - 4 := wrap_i64 (by omega) (by omega)
   clear h1 h2 h4
   generalize valB x1 = id at *
   generalize valB x2 = n at *
   by_cases he : e4 = 0
   ·subst he
    obtain ⟨hlen, hgood⟩ := hgood rfl
    rw [hgood] at hz
    have q7 := set_saysF ⟨⟨false, es, clk⟩, ti, sq, dm, lo, il, ou⟩ rfl id v1 x4 (hI.mono (by omega)) (by omega)
    have hI2 := hI.set (j := b4.length) id x4 (by omega)
    have hn2 := fun h => nl_setF (d := ⟨⟨false, es, clk⟩, ti, sq, dm, lo, il, ou⟩) h id x4
    generalize setF opC ⟨⟨false, es, clk⟩, ti, sq, dm, lo, il, ou⟩ id x4 = y at *
    obtain ⟨d1, er⟩ := y
    dsimp only at q7 hI2 hn2 hz
    obtain ⟨⟨nl1, es1, clk1⟩, ti1, sq1, dm1, lo1, il1, ou1⟩ := d1
    have hn2 : nl1 = false := hn2 rfl
    subst hn2
    (conv => whnf); repeat' ((with_reducible refine Box.mk ?_) <;> conv => whnf)
    refine aW [3] q1 rfl rfl rfl ?_
    (conv => whnf); (repeat' ((with_reducible first | refine Box.mk ?_ | refine And.intro (fun _ => ?_) (fun _ => ?_) | fail) <;> conv => whnf))
    rotate_left
    ·exfalso; rename_i h; have h : ¬ (0 : Int) < (bs.length : Int) := h; omega
    refine aW [3] q2 rfl rfl rfl ?_
    (conv => whnf); repeat' ((with_reducible refine Box.mk ?_) <;> conv => whnf)
    refine aW [3] q3 rfl rfl rfl ?_
    (conv => whnf); (repeat' ((with_reducible first | refine Box.mk ?_ | refine And.intro (fun _ => ?_) (fun _ => ?_) | fail) <;> conv => whnf))
    all_goals (
     rw [w1, w2]
     first
      | (refine aW [3] (q4 true (decide_eq_true (by omega))) rfl rfl rfl ?_)
      | (refine aW [3] (q4 false (decide_eq_false (by omega))) rfl rfl rfl ?_)
     (conv => whnf); repeat' ((with_reducible refine Box.mk ?_) <;> conv => whnf)
     rw [w3]
     refine aW [3] q5 rfl rfl rfl ?_
     (conv => whnf); repeat' ((with_reducible refine Box.mk ?_) <;> conv => whnf)
     refine aW [3] q6 rfl rfl rfl ?_
     (conv => whnf); (repeat' ((with_reducible first | refine Box.mk ?_ | refine And.intro (fun _ => ?_) (fun _ => ?_) | fail) <;> conv => whnf))
     rotate_left
     ·exact absurd rfl (by assumption)
     refine aW [0, 1, 4, 5] q7 rfl rfl rfl ?_
     (conv => whnf); (repeat' ((with_reducible first | refine Box.mk ?_ | refine And.intro (fun _ => ?_) (fun _ => ?_) | fail) <;> conv => whnf))
     ·rename_i h0
      have h0 : er = 0 := h0
      subst h0
      rw [if_neg (show ¬ (0 : Int) ≠ 0 from fun h => h rfl)] at hz
      exact ⟨(⟨⟨false, es1, clk1⟩, ti1, sq1, dm1, lo1, il1, ou1⟩, b4, m), ⟨hI2, by show b4.length ≤ m; omega, by show b4.length ≤ _; omega, hz⟩, by show b4.length < bs.length; omega, weak_ren_to [(0, true), (1, true), (2, false), (3, true), (6, true), (5, true)] rfl rfl rfl ⟨rfl, rfl, rfl, trivial⟩⟩
     ·rename_i h0
      rw [if_pos h0] at hz
      simp only [Prod.mk.injEq] at hz
      obtain ⟨rfl, rfl⟩ := hz
      exact weak_ren_to [(0, true), (1, true), (2, false), (6, true), (5, true)] rfl rfl rfl ⟨rfl, trivial⟩)
   ·rw [hbad he] at hz
    simp only [Prod.mk.injEq] at hz
    obtain ⟨rfl, rfl⟩ := hz
    (conv => whnf); repeat' ((with_reducible refine Box.mk ?_) <;> conv => whnf)
    refine aW [3] q1 rfl rfl rfl ?_
    (conv => whnf); (repeat' ((with_reducible first | refine Box.mk ?_ | refine And.intro (fun _ => ?_) (fun _ => ?_) | fail) <;> conv => whnf))
    rotate_left
    ·exfalso; rename_i h; have h : ¬ (0 : Int) < (bs.length : Int) := h; omega
    refine aW [3] q2 rfl rfl rfl ?_
    (conv => whnf); repeat' ((with_reducible refine Box.mk ?_) <;> conv => whnf)
    refine aW [3] q3 rfl rfl rfl ?_
    (conv => whnf); (repeat' ((with_reducible first | refine Box.mk ?_ | refine And.intro (fun _ => ?_) (fun _ => ?_) | fail) <;> conv => whnf))
    all_goals (
     rw [w1, w2]
     first
      | (refine aW [3] (q4 true (decide_eq_true (by omega))) rfl rfl rfl ?_)
      | (refine aW [3] (q4 false (decide_eq_false (by omega))) rfl rfl rfl ?_)
     (conv => whnf); repeat' ((with_reducible refine Box.mk ?_) <;> conv => whnf)
     rw [w3]
     refine aW [3] q5 rfl rfl rfl ?_
     (conv => whnf); repeat' ((with_reducible refine Box.mk ?_) <;> conv => whnf)
     refine aW [3] q6 rfl rfl rfl ?_
     (conv => whnf); (repeat' ((with_reducible first | refine Box.mk ?_ | refine And.intro (fun _ => ?_) (fun _ => ?_) | fail) <;> conv => whnf))
     ·exact absurd (by assumption) he
     exact weak_ren_to [(0, true), (1, true), (2, false), (4, true), (5, true)] rfl rfl rfl ⟨rfl, trivial⟩)
 ·by_cases hne : bs = []
  ·subst hne
   rw [sets_nil] at hz
   simp only [Prod.mk.injEq] at hz
   obtain ⟨rfl, rfl⟩ := hz
   (conv => whnf); repeat' ((with_reducible refine Box.mk ?_) <;> conv => whnf)
   refine aW [3] q1 rfl rfl rfl ?_
   (conv => whnf); (repeat' ((with_reducible first | refine Box.mk ?_ | refine And.intro (fun _ => ?_) (fun _ => ?_) | fail) <;> conv => whnf))
   ·exfalso; rename_i h; exact absurd h (by decide)
   exact weak_ren_to [(0, true), (1, true), (2, false), (4, true)] rfl rfl rfl ⟨rfl, trivial⟩
  ·obtain ⟨m, rfl⟩ : ∃ k, m = k + 1 := ⟨m - 1, by have := List.length_pos_iff.2 hne; omega⟩
   have hpos := List.length_pos_iff.2 hne
   rcases h1 : rawF 2 bs 0 with ⟨x1, b1, e1⟩
   have a1 := raw_any h1
   rcases h2 : rawF 2 b1 e1 with ⟨x2, b2, e2⟩
   have a2 := raw_any h2
   rcases h4 : rawF ((valB x2 : Int) - 4) b2 (mustE e2 (decide (4 ≤ valB x2))) with ⟨x4, b4, e4⟩
   have a4 := raw_any h4
   obtain ⟨hbad, hgood⟩ := sets_chain h1 h2 h4 hne m ⟨⟨true, es, clk⟩, ti, sq, dm, lo, il, ou⟩
   have v1 : valB x1 < 65536 := by have := raw_val 2 65536 bs 0 rfl; rw [show (((2 : Nat) : Nat) : Int) = 2 from rfl, h1] at this; exact this
   have v2 : valB x2 < 65536 := by have := raw_val 2 65536 b1 e1 rfl; rw [show (((2 : Nat) : Nat) : Int) = 2 from rfl, h2] at this; exact this
   have q2 := rNum_ok bs 0 2 hbs
   rw [show ((szN 2 : Nat) : Int) = 2 from rfl, h1] at q2
   have q3 := rNum_ok b1 e1 2 (by omega)
   rw [show ((szN 2 : Nat) : Int) = 2 from rfl, h2] at q3
   have q4 : ∀ x, decide (4 ≤ valB x2) = x → DCall P 44 [.ptr 0 0, .bool x] (rH b2 e2) (mkRes []) (rH b2 (mustE e2 (decide (4 ≤ valB x2)))) := fun x hx => by subst hx; exact rMust_ok b2 e2 _
   have q5 := rRaw_ok b2 (mustE e2 (decide (4 ≤ valB x2))) ((valB x2 : Int) - 4) (by omega)
   rw [h4] at q5
   have q6 := rErr_ok b4 e4
   dsimp only at q2 q3 q5
   generalize mustE e2 (decide (4 ≤ valB x2)) = e3 at *
   have w1 : IntKind.i64.wrap (valB x1 : Int) = valB x1 := wrap_i64 (by omega) (by omega)
   have w2 : IntKind.i64.wrap (valB x2 : Int) = valB x2 := wrap_i64 (by omega) (by omega)
   have w3 : IntKind.i64.wrap ((valB x2 : Int) - 4) = (valB x2 : Int) - 4 := wrap_i64 (by omega) (by omega)
   clear h1 h2 h4
   generalize valB x1 = id at *
   generalize valB x2 = n at *
   by_cases he : e4 = 0
   ·subst he
    obtain ⟨hlen, hgood⟩ := hgood rfl
    rw [hgood] at hz
    have q7 := set_saysN ⟨⟨true, es, clk⟩, ti, sq, dm, lo, il, ou⟩ rfl id v1 x4 (hI.mono (by omega)) (by omega)
    have hI2 := hI.set (j := b4.length) id x4 (by omega)
    have hn2 := fun h => nl_setF (d := ⟨⟨true, es, clk⟩, ti, sq, dm, lo, il, ou⟩) h id x4
    generalize setF opC ⟨⟨true, es, clk⟩, ti, sq, dm, lo, il, ou⟩ id x4 = y at *
    obtain ⟨d1, er⟩ := y
    dsimp only at q7 hI2 hn2 hz
    obtain ⟨⟨nl1, es1, clk1⟩, ti1, sq1, dm1, lo1, il1, ou1⟩ := d1
    clear hn2
    cases nl1
    ·have q7 : DCall P _ _ _ _ (qM ⟨⟨false, es1, clk1⟩, ti1, sq1, dm1, lo1, il1, ou1⟩) := q7
     (conv => whnf); repeat' ((with_reducible refine Box.mk ?_) <;> conv => whnf)
     refine aW [3] q1 rfl rfl rfl ?_
     (conv => whnf); (repeat' ((with_reducible first | refine Box.mk ?_ | refine And.intro (fun _ => ?_) (fun _ => ?_) | fail) <;> conv => whnf))
     rotate_left
     ·exfalso; rename_i h; have h : ¬ (0 : Int) < (bs.length : Int) := h; omega
     refine aW [3] q2 rfl rfl rfl ?_
     (conv => whnf); repeat' ((with_reducible refine Box.mk ?_) <;> conv => whnf)
     refine aW [3] q3 rfl rfl rfl ?_
     (conv => whnf); (repeat' ((with_reducible first | refine Box.mk ?_ | refine And.intro (fun _ => ?_) (fun _ => ?_) | fail) <;> conv => whnf))
     all_goals (
      rw [w1, w2]
      first
       | (refine aW [3] (q4 true (decide_eq_true (by omega))) rfl rfl rfl ?_)
       | (refine aW [3] (q4 false (decide_eq_false (by omega))) rfl rfl rfl ?_)
      (conv => whnf); repeat' ((with_reducible refine Box.mk ?_) <;> conv => whnf)
      rw [w3]
      refine aW [3] q5 rfl rfl rfl ?_
      (conv => whnf); repeat' ((with_reducible refine Box.mk ?_) <;> conv => whnf)
      refine aW [3] q6 rfl rfl rfl ?_
      (conv => whnf); (repeat' ((with_reducible first | refine Box.mk ?_ | refine And.intro (fun _ => ?_) (fun _ => ?_) | fail) <;> conv => whnf))
      rotate_left
      ·exact absurd rfl (by assumption)
      refine aW [0, 1, 4] q7 rfl rfl rfl ?_
      (conv => whnf); (repeat' ((with_reducible first | refine Box.mk ?_ | refine And.intro (fun _ => ?_) (fun _ => ?_) | fail) <;> conv => whnf))
      ·rename_i h0
       have h0 : er = 0 := h0
       subst h0
       rw [if_neg (show ¬ (0 : Int) ≠ 0 from fun h => h rfl)] at hz
       exact ⟨(⟨⟨false, es1, clk1⟩, ti1, sq1, dm1, lo1, il1, ou1⟩, b4, m), ⟨hI2, by show b4.length ≤ m; omega, by show b4.length ≤ _; omega, hz⟩, by show b4.length < bs.length; omega, weak_ren_to [(0, true), (1, true), (2, false), (3, true), (5, true), (6, true)] rfl rfl rfl ⟨rfl, rfl, rfl, trivial⟩⟩
      ·rename_i h0
       rw [if_pos h0] at hz
       simp only [Prod.mk.injEq] at hz
       obtain ⟨rfl, rfl⟩ := hz
       exact weak_ren_to [(0, true), (1, true), (2, false), (5, true), (6, true)] rfl rfl rfl ⟨rfl, trivial⟩)
    ·have q7 : DCall P _ _ _ _ (qN ⟨⟨true, es1, clk1⟩, ti1, sq1, dm1, lo1, il1, ou1⟩) := q7
     (conv => whnf); repeat' ((with_reducible refine Box.mk ?_) <;> conv => whnf)
     refine aW [3] q1 rfl rfl rfl ?_
     (conv => whnf); (repeat' ((with_reducible first | refine Box.mk ?_ | refine And.intro (fun _ => ?_) (fun _ => ?_) | fail) <;> conv => whnf))
     rotate_left
     ·exfalso; rename_i h; have h : ¬ (0 : Int) < (bs.length : Int) := h; omega
     refine aW [3] q2 rfl rfl rfl ?_
     (conv => whnf); repeat' ((with_reducible refine Box.mk ?_) <;> conv => whnf)
     refine aW [3] q3 rfl rfl rfl ?_
     (conv => whnf); (repeat' ((with_reducible first | refine Box.mk ?_ | refine And.intro (fun _ => ?_) (fun _ => ?_) | fail) <;> conv => whnf))
     all_goals (
      rw [w1, w2]
      first
       | (refine aW [3] (q4 true (decide_eq_true (by omega))) rfl rfl rfl ?_)
       | (refine aW [3] (q4 false (decide_eq_false (by omega))) rfl rfl rfl ?_)
      (conv => whnf); repeat' ((with_reducible refine Box.mk ?_) <;> conv => whnf)
      rw [w3]
      refine aW [3] q5 rfl rfl rfl ?_
      (conv => whnf); repeat' ((with_reducible refine Box.mk ?_) <;> conv => whnf)
      refine aW [3] q6 rfl rfl rfl ?_
      (conv => whnf); (repeat' ((with_reducible first | refine Box.mk ?_ | refine And.intro (fun _ => ?_) (fun _ => ?_) | fail) <;> conv => whnf))
      rotate_left
      ·exact absurd rfl (by assumption)
      refine aW [0, 1, 4] q7 rfl rfl rfl ?_
      (conv => whnf); (repeat' ((with_reducible first | refine Box.mk ?_ | refine And.intro (fun _ => ?_) (fun _ => ?_) | fail) <;> conv => whnf))
      ·rename_i h0
       have h0 : er = 0 := h0
       subst h0
       rw [if_neg (show ¬ (0 : Int) ≠ 0 from fun h => h rfl)] at hz
       exact ⟨(⟨⟨true, es1, clk1⟩, ti1, sq1, dm1, lo1, il1, ou1⟩, b4, m), ⟨hI2, by show b4.length ≤ m; omega, by show b4.length ≤ _; omega, hz⟩, by show b4.length < bs.length; omega, weak_ren_to [(0, true), (1, true), (2, false), (3, true), (5, true)] rfl rfl rfl ⟨rfl, rfl, rfl, trivial⟩⟩
      ·rename_i h0
       rw [if_pos h0] at hz
       simp only [Prod.mk.injEq] at hz
       obtain ⟨rfl, rfl⟩ := hz
       exact weak_ren_to [(0, true), (1, true), (2, false), (5, true)] rfl rfl rfl ⟨rfl, trivial⟩)
   ·rw [hbad he] at hz
    simp only [Prod.mk.injEq] at hz
    obtain ⟨rfl, rfl⟩ := hz
    (conv => whnf); repeat' ((with_reducible refine Box.mk ?_) <;> conv => whnf)
    refine aW [3] q1 rfl rfl rfl ?_
    (conv => whnf); (repeat' ((with_reducible first | refine Box.mk ?_ | refine And.intro (fun _ => ?_) (fun _ => ?_) | fail) <;> conv => whnf))
    rotate_left
    ·exfalso; rename_i h; have h : ¬ (0 : Int) < (bs.length : Int) := h; omega
    refine aW [3] q2 rfl rfl rfl ?_
    (conv => whnf); repeat' ((with_reducible refine Box.mk ?_) <;> conv => whnf)
    refine aW [3] q3 rfl rfl rfl ?_
    (conv => whnf); (repeat' ((with_reducible first | refine Box.mk ?_ | refine And.intro (fun _ => ?_) (fun _ => ?_) | fail) <;> conv => whnf))
    all_goals (
     rw [w1, w2]
     first
      | (refine aW [3] (q4 true (decide_eq_true (by omega))) rfl rfl rfl ?_)
      | (refine aW [3] (q4 false (decide_eq_false (by omega))) rfl rfl rfl ?_)
     (conv => whnf); repeat' ((with_reducible refine Box.mk ?_) <;> conv => whnf)
     rw [w3]
     refine aW [3] q5 rfl rfl rfl ?_
     (conv => whnf); repeat' ((with_reducible refine Box.mk ?_) <;> conv => whnf)
     refine aW [3] q6 rfl rfl rfl ?_
     (conv => whnf); (repeat' ((with_reducible first | refine Box.mk ?_ | refine And.intro (fun _ => ?_) (fun _ => ?_) | fail) <;> conv => whnf))
     ·exact absurd (by assumption) he
     exact weak_ren_to [(0, true), (1, true), (2, false), (4, true)] rfl rfl rfl ⟨rfl, trivial⟩)
end Go.Proofs.YtnajpmepcffnaaaGreatDoor
end

section
/- ipfix: a message's head. -/
namespace Go.Proofs.YtnajpmepcffnaaaGreatDoor
open Go.Ve

def hv0 : AV := .agg [.int .u32 0, .int .u32 0, .int .u32 0, .int .i64 0, .int .i64 0]
def hvB (b : Bs) : AV := .agg [.int .u32 (hTime b : Int), .int .u32 (hSeq b : Int), .int .u32 (hDom b : Int), .int .i64 0, .int .i64 0]
set_option maxHeartbeats 4000000 in
theorem head_ok (b : Bs) (hb : b.length ≤ 1000000000) : DCall P 20 [.sl (bcl b)] [] (.tup [if headE b ≠ 0 then hv0 else hvB b, .int .i64 (headE b)]) [] := by
 have hbl := bcl_len b
 by_cases h16 : b.length < 16
 ·have he : headE b = 8 := by unfold headE; rw [if_pos h16]
  rw [he, if_pos (by decide)]
  refine DCall.of_awp tok mixed fn20 (Nat.le_of_ble_eq_true rfl) ?_
  (conv => whnf); (repeat' ((with_reducible first | refine Box.mk ?_ | refine And.intro (fun _ => ?_) (fun _ => ?_) | fail) <;> conv => whnf))
  ·exact weak_ren_to [] rfl rfl rfl ⟨rfl, trivial⟩
  ·exfalso; omega
 ·have q0 := from_sl b hb
  have q1 := num2 (bs := b) (by omega) hb
  have q2 := num2 (bs := b.drop 2) (by rw [List.length_drop]; omega) (by rw [List.length_drop]; omega)
  have q3 := num4 (bs := b.drop 4) (by rw [List.length_drop]; omega) (by rw [List.length_drop]; omega)
  have q4 := num4 (bs := b.drop 8) (by rw [List.length_drop]; omega) (by rw [List.length_drop]; omega)
  have q5 := num4 (bs := b.drop 12) (by rw [List.length_drop]; omega) (by rw [List.length_drop]; omega)
  rw [List.drop_drop] at q2 q3 q4 q5
  have v1 := val2 b
  have v2 := val2 (b.drop 2)
  have v3 := val4 (b.drop 4)
  have v4 := val4 (b.drop 8)
  have v5 := val4 (b.drop 12)
  unfold headE hvB hTime hSeq hDom
  rw [if_neg h16]
  unfold idB cntB
  have q2 : DCall P _ _ _ _ (rH (b.drop 4) 0) := q2
  have q3 : DCall P _ _ _ _ (rH (b.drop 8) 0) := q3
  have q4 : DCall P _ _ _ _ (rH (b.drop 12) 0) := q4
  have q5 : DCall P _ _ _ _ (rH (b.drop 16) 0) := q5
  generalize valB (b.take 2) = v at *
  generalize valB ((b.drop 2).take 2) = n at *
  generalize valB ((b.drop 4).take 4) = x3 at *
  generalize valB ((b.drop 8).take 4) = x4 at *
  generalize valB ((b.drop 12).take 4) = x5 at *
  generalize b.drop 2 = b2 at *
  generalize b.drop 4 = b4 at *
  generalize b.drop 8 = b8 at *
  generalize b.drop 12 = b12 at *
  generalize b.drop 16 = b16 at *
  have w2 : IntKind.i64.wrap (n : Int) = n := wrap_i64 (by omega) (by omega)
  have w3 : IntKind.u32.wrap (x3 : Int) = x3 := wrap_u32 (by omega) (by omega)
  have w4 : IntKind.u32.wrap (x4 : Int) = x4 := wrap_u32 (by omega) (by omega)
  have w5 : IntKind.u32.wrap (x5 : Int) = x5 := wrap_u32 (by omega) (by omega)
  refine DCall.of_awp tok mixed fn20 (Nat.le_of_ble_eq_true rfl) ?_
  (conv => whnf); (repeat' ((with_reducible first | refine Box.mk ?_ | refine And.intro (fun _ => ?_) (fun _ => ?_) | fail) <;> conv => whnf))
  ·exfalso; omega
  refine aW [] q0 rfl rfl rfl ?_
  (conv => whnf); repeat' ((with_reducible refine Box.mk ?_) <;> conv => whnf)
  refine aW [2] q1 rfl rfl rfl ?_
  (conv => whnf); repeat' ((with_reducible refine Box.mk ?_) <;> conv => whnf)
  refine aW [2] q2 rfl rfl rfl ?_
  (conv => whnf); (repeat' ((with_reducible first | refine Box.mk ?_ | refine And.intro (fun _ => ?_) (fun _ => ?_) | fail) <;> conv => whnf))
  ·rw [if_neg (show ¬ v ≠ 10 by omega), if_pos (show n < 16 by omega), if_pos (by decide)]
   exact weak_ren_to [] rfl rfl rfl ⟨rfl, trivial⟩
  ·rw [if_neg (show ¬ v ≠ 10 by omega), if_neg (show ¬ n < 16 by omega), if_pos (show b.length < n by omega), if_pos (by decide)]
   exact weak_ren_to [] rfl rfl rfl ⟨rfl, trivial⟩
  ·rw [if_neg (show ¬ v ≠ 10 by omega), if_neg (show ¬ n < 16 by omega), if_neg (show ¬ b.length < n by omega), if_pos (show n < b.length by omega), if_pos (by decide)]
   exact weak_ren_to [] rfl rfl rfl ⟨rfl, trivial⟩
  ·rw [if_neg (show ¬ v ≠ 10 by omega), if_neg (show ¬ n < 16 by omega), if_neg (show ¬ b.length < n by omega), if_neg (show ¬ n < b.length by omega), if_neg (by decide)]
   refine aW [2] q3 rfl rfl rfl ?_
   (conv => whnf); repeat' ((with_reducible refine Box.mk ?_) <;> conv => whnf)
   rw [w3]
   refine aW [2] q4 rfl rfl rfl ?_
   (conv => whnf); repeat' ((with_reducible refine Box.mk ?_) <;> conv => whnf)
   rw [w4]
   refine aW [2] q5 rfl rfl rfl ?_
   (conv => whnf); repeat' ((with_reducible refine Box.mk ?_) <;> conv => whnf)
   rw [w5]
   exact weak_ren_to [] rfl rfl rfl ⟨rfl, trivial⟩
  ·rw [if_pos (show v ≠ 10 by omega), if_pos (by decide)]
   exact weak_ren_to [] rfl rfl rfl ⟨rfl, trivial⟩
end Go.Proofs.YtnajpmepcffnaaaGreatDoor
end

section
/- ipfix: Read. -/
namespace Go.Proofs.YtnajpmepcffnaaaGreatDoor
open Go.Ve

def hvR (d : Rd Cs) : AV := .agg [.int .u32 (d.time : Int), .int .u32 (d.seq : Int), .int .u32 (d.dom : Int), .int .i64 (d.lost : Int), .int .i64 (d.idle : Int)]
def badV (e : Int) : AV := .tup [.nilp, .nils, hv0, .int .i64 e]
def goodV (n : Nat) (d : Rd Cs) : AV := .tup [.ptr n 0, .sl (rcl d.out), hvR d, .int .i64 0]
theorem read_nilp (b : Bs) : DCall P 8 [.nilp, .sl (bcl b)] [] (badV 6) [] := by
 refine DCall.of_awp tok mixed fn8 (Nat.le_of_ble_eq_true rfl) ?_
 (conv => whnf); (repeat' ((with_reducible first | refine Box.mk ?_ | refine And.intro (fun _ => ?_) (fun _ => ?_) | fail) <;> conv => whnf))
 all_goals try contradiction
 exact weak_ren_to [] rfl rfl rfl ⟨rfl, trivial⟩

theorem read_headF (es : Es) (clk : Nat) (b : Bs) (hb : b.length ≤ 1000000000) (h : headE b ≠ 0) : DCall P 8 [.ptr 0 0, .sl (bcl b)] (CHp es clk) (badV (headE b)) (CHp es clk) := by
 have q1 := head_ok b hb
 rw [if_pos h] at q1
 generalize headE b = e at *
 refine DCall.of_awp tok mixed fn8 (Nat.le_of_ble_eq_true rfl) ?_
 (conv => whnf); (repeat' ((with_reducible first | refine Box.mk ?_ | refine And.intro (fun _ => ?_) (fun _ => ?_) | fail) <;> conv => whnf))
 all_goals try contradiction
 refine aW [] q1 rfl rfl rfl ?_
 (conv => whnf); (repeat' ((with_reducible first | refine Box.mk ?_ | refine And.intro (fun _ => ?_) (fun _ => ?_) | fail) <;> conv => whnf))
 ·exact absurd (by assumption) h
 exact weak_ren_to [(0, true), (1, true)] rfl rfl rfl ⟨rfl, trivial⟩

set_option maxHeartbeats 4000000 in
theorem read_FFF (es : Es) (clk : Nat) (es1 : Es) (clk1 : Nat) (b : Bs) (hb : b.length ≤ 1000000000) (h : headE b = 0)
  (q2 : DCall P 21 [.ptr 0 0] (CHp es clk) (.ptr 2 0) ((CHp es clk) ++ [.box 67 [.own 3], .map pk2 (ces es1) clk1]))
  (es2 : Es) (clk2 ti sq dm lo il : Nat) (ou : List Rc) (er : Int) (q3 : DCall P 22 [.ptr 1 0, .sl (bcl (b.drop 16))] (dF ⟨⟨false, es1, clk1⟩, hTime b, hSeq b, hDom b, 0, 0, []⟩) (.int .i64 er) (qF ⟨⟨false, es2, clk2⟩, ti, sq, dm, lo, il, ou⟩)) :
  (er ≠ 0 → DCall P 8 [.ptr 0 0, .sl (bcl b)] (CHp es clk) (badV er) (CHp es clk)) ∧
  (er = 0 → DCall P 8 [.ptr 0 0, .sl (bcl b)] (CHp es clk) (goodV 2 ⟨⟨false, es2, clk2⟩, ti, sq, dm, lo, il, ou⟩) (CHp es clk ++ cHat 2 ⟨false, es2, clk2⟩)) := by
 have q1 := head_ok b hb
 rw [if_neg (fun hx => hx h), h] at q1
 have hbl := bcl_len b
 have h16 : 16 ≤ b.length := by
  by_cases hx : 16 ≤ b.length
  ·exact hx
  ·unfold headE at h; rw [if_pos (by omega)] at h; cases h
 have hsl : List.drop (16 : Int).toNat (List.take (bcl b).length (bcl b)) = bcl (b.drop 16) := by rw [List.take_length]; exact (List.map_drop ..).symm
 constructor
 ·intro he
  refine DCall.of_awp tok mixed fn8 (Nat.le_of_ble_eq_true rfl) ?_
  (conv => whnf); (repeat' ((with_reducible first | refine Box.mk ?_ | refine And.intro (fun _ => ?_) (fun _ => ?_) | fail) <;> conv => whnf))
  all_goals try contradiction
  refine aW [] q1 rfl rfl rfl ?_
  (conv => whnf); (repeat' ((with_reducible first | refine Box.mk ?_ | refine And.intro (fun _ => ?_) (fun _ => ?_) | fail) <;> conv => whnf))
  rotate_left
  ·exact absurd rfl (by assumption)
  refine ⟨[(2001, []), (3002, [1])], by kernel_rfl, ?_⟩
  (conv => whnf); repeat' ((with_reducible refine Box.mk ?_) <;> conv => whnf)
  refine aDw [0, 1] q2 rfl rfl rfl ?_
  (conv => whnf); repeat' ((with_reducible refine Box.mk ?_) <;> conv => whnf)
  (refine And.intro ?_ ?_); (focus ((conv => whnf); (repeat' first | exact trivial | ((refine And.intro ?_ ?_); (focus ((conv => whnf); (first | exact ⟨rfl, rfl⟩ | exact ⟨by decide, by decide, rfl, rfl⟩ | exact ⟨by omega, by omega, rfl, rfl⟩ | exact ⟨by (simp only [List.length_drop, List.length_take]; omega), rfl, rfl⟩ | exact ⟨_, rfl, rfl, rfl⟩ | exact ⟨by omega, _, by assumption, rfl, rfl, rfl⟩ | ((refine ACall.of_pure (by assumption) (by rfl) ?_); (refine And.intro ?_ ?_ <;> rfl))))); (conv => whnf)))))
  (conv => whnf); (repeat' ((first | (with_reducible refine Box.mk ?_) | ((with_reducible show _ ∧ _ ∧ _); refine ⟨by omega, by omega, ?_⟩) | fail) <;> conv => whnf))
  refine ⟨bcl_all b, ?_⟩
  rw [hsl]
  (conv => whnf); repeat' ((with_reducible refine Box.mk ?_) <;> conv => whnf)
  refine ACall.weak [(0, .ptr 6 0), (1, .sl (bcl (b.drop 16)))] (az := [.ptr 6 0, .sl (bcl (b.drop 16))]) rfl rfl (by exact weak_nilrow (H' := [.box 67 [.own 1], .map pk2 (ces es) clk, .box 29 [.int .u32 0, .int .u32 0, .int .u32 0, .int .i64 0, .int .i64 0], .box 29 [.int .u32 (hTime b : Int), .int .u32 (hSeq b : Int), .int .u32 (hDom b : Int), .int .i64 0, .int .i64 0], .box 67 [.own 5], .map pk2 (ces es1) clk1, .box 72 [.ptr 4 0, .int .u32 (hTime b : Int), .int .u32 (hSeq b : Int), .int .u32 (hDom b : Int), .int .i64 0, .int .i64 0, .own 7]]) 55 22 (by decide) ⟨.inl rfl, .inl rfl, trivial⟩ ⟨.inl rfl, .inl rfl, .inl rfl, .inl rfl, .inl rfl, .inl rfl, .inr ⟨rfl, .inl rfl, .inl rfl, .inl rfl, .inl rfl, .inl rfl, .inl rfl, .inr ⟨rfl, rfl⟩, trivial⟩, trivial⟩) ?_
  refine aW [4, 6, 7, 5] q3 rfl rfl rfl ?_
  (conv => whnf); (repeat' ((with_reducible first | refine Box.mk ?_ | refine And.intro (fun _ => ?_) (fun _ => ?_) | fail) <;> conv => whnf))
  ·exact absurd (by assumption) he
  exact weak_ren_to [(0, true), (1, true)] rfl rfl rfl ⟨rfl, trivial⟩
 ·intro he
  subst he
  refine DCall.of_awp tok mixed fn8 (Nat.le_of_ble_eq_true rfl) ?_
  (conv => whnf); (repeat' ((with_reducible first | refine Box.mk ?_ | refine And.intro (fun _ => ?_) (fun _ => ?_) | fail) <;> conv => whnf))
  all_goals try contradiction
  refine aW [] q1 rfl rfl rfl ?_
  (conv => whnf); (repeat' ((with_reducible first | refine Box.mk ?_ | refine And.intro (fun _ => ?_) (fun _ => ?_) | fail) <;> conv => whnf))
  rotate_left
  ·exact absurd rfl (by assumption)
  refine ⟨[(2001, []), (3002, [1])], by kernel_rfl, ?_⟩
  (conv => whnf); repeat' ((with_reducible refine Box.mk ?_) <;> conv => whnf)
  refine aDw [0, 1] q2 rfl rfl rfl ?_
  (conv => whnf); repeat' ((with_reducible refine Box.mk ?_) <;> conv => whnf)
  (refine And.intro ?_ ?_); (focus ((conv => whnf); (repeat' first | exact trivial | ((refine And.intro ?_ ?_); (focus ((conv => whnf); (first | exact ⟨rfl, rfl⟩ | exact ⟨by decide, by decide, rfl, rfl⟩ | exact ⟨by omega, by omega, rfl, rfl⟩ | exact ⟨by (simp only [List.length_drop, List.length_take]; omega), rfl, rfl⟩ | exact ⟨_, rfl, rfl, rfl⟩ | exact ⟨by omega, _, by assumption, rfl, rfl, rfl⟩ | ((refine ACall.of_pure (by assumption) (by rfl) ?_); (refine And.intro ?_ ?_ <;> rfl))))); (conv => whnf)))))
  (conv => whnf); (repeat' ((first | (with_reducible refine Box.mk ?_) | ((with_reducible show _ ∧ _ ∧ _); refine ⟨by omega, by omega, ?_⟩) | fail) <;> conv => whnf))
  refine ⟨bcl_all b, ?_⟩
  rw [hsl]
  (conv => whnf); repeat' ((with_reducible refine Box.mk ?_) <;> conv => whnf)
  refine ACall.weak [(0, .ptr 6 0), (1, .sl (bcl (b.drop 16)))] (az := [.ptr 6 0, .sl (bcl (b.drop 16))]) rfl rfl (by exact weak_nilrow (H' := [.box 67 [.own 1], .map pk2 (ces es) clk, .box 29 [.int .u32 0, .int .u32 0, .int .u32 0, .int .i64 0, .int .i64 0], .box 29 [.int .u32 (hTime b : Int), .int .u32 (hSeq b : Int), .int .u32 (hDom b : Int), .int .i64 0, .int .i64 0], .box 67 [.own 5], .map pk2 (ces es1) clk1, .box 72 [.ptr 4 0, .int .u32 (hTime b : Int), .int .u32 (hSeq b : Int), .int .u32 (hDom b : Int), .int .i64 0, .int .i64 0, .own 7]]) 55 22 (by decide) ⟨.inl rfl, .inl rfl, trivial⟩ ⟨.inl rfl, .inl rfl, .inl rfl, .inl rfl, .inl rfl, .inl rfl, .inr ⟨rfl, .inl rfl, .inl rfl, .inl rfl, .inl rfl, .inl rfl, .inl rfl, .inr ⟨rfl, rfl⟩, trivial⟩, trivial⟩) ?_
  refine aW [4, 6, 7, 5] q3 rfl rfl rfl ?_
  (conv => whnf); (repeat' ((with_reducible first | refine Box.mk ?_ | refine And.intro (fun _ => ?_) (fun _ => ?_) | fail) <;> conv => whnf))
  rotate_left
  ·exact absurd rfl (by assumption)
  refine ⟨[], by kernel_rfl, ?_⟩
  (conv => whnf); repeat' ((with_reducible refine Box.mk ?_) <;> conv => whnf)
  exact weak_cr 8 [(0, true), (1, true), (4, true), (5, true)] rfl rfl rfl rfl rfl

set_option maxHeartbeats 4000000 in
theorem read_FNM (es : Es) (clk : Nat) (es1 : Es) (clk1 : Nat) (b : Bs) (hb : b.length ≤ 1000000000) (h : headE b = 0)
  (q2 : DCall P 21 [.ptr 0 0] (CHp es clk) (.ptr 2 0) ((CHp es clk) ++ [.box 67 [.nilm]]))
  (es2 : Es) (clk2 ti sq dm lo il : Nat) (ou : List Rc) (er : Int) (q3 : DCall P 22 [.ptr 1 0, .sl (bcl (b.drop 16))] (dN ⟨⟨true, es1, clk1⟩, hTime b, hSeq b, hDom b, 0, 0, []⟩) (.int .i64 er) (qM ⟨⟨false, es2, clk2⟩, ti, sq, dm, lo, il, ou⟩)) :
  (er ≠ 0 → DCall P 8 [.ptr 0 0, .sl (bcl b)] (CHp es clk) (badV er) (CHp es clk)) ∧
  (er = 0 → DCall P 8 [.ptr 0 0, .sl (bcl b)] (CHp es clk) (goodV 2 ⟨⟨false, es2, clk2⟩, ti, sq, dm, lo, il, ou⟩) (CHp es clk ++ cHat 2 ⟨false, es2, clk2⟩)) := by
 have q1 := head_ok b hb
 rw [if_neg (fun hx => hx h), h] at q1
 have hbl := bcl_len b
 have h16 : 16 ≤ b.length := by
  by_cases hx : 16 ≤ b.length
  ·exact hx
  ·unfold headE at h; rw [if_pos (by omega)] at h; cases h
 have hsl : List.drop (16 : Int).toNat (List.take (bcl b).length (bcl b)) = bcl (b.drop 16) := by rw [List.take_length]; exact (List.map_drop ..).symm
 constructor
 ·intro he
  refine DCall.of_awp tok mixed fn8 (Nat.le_of_ble_eq_true rfl) ?_
  (conv => whnf); (repeat' ((with_reducible first | refine Box.mk ?_ | refine And.intro (fun _ => ?_) (fun _ => ?_) | fail) <;> conv => whnf))
  all_goals try contradiction
  refine aW [] q1 rfl rfl rfl ?_
  (conv => whnf); (repeat' ((with_reducible first | refine Box.mk ?_ | refine And.intro (fun _ => ?_) (fun _ => ?_) | fail) <;> conv => whnf))
  rotate_left
  ·exact absurd rfl (by assumption)
  refine ⟨[(2001, []), (3002, [1])], by kernel_rfl, ?_⟩
  (conv => whnf); repeat' ((with_reducible refine Box.mk ?_) <;> conv => whnf)
  refine aDw [0, 1] q2 rfl rfl rfl ?_
  (conv => whnf); repeat' ((with_reducible refine Box.mk ?_) <;> conv => whnf)
  (refine And.intro ?_ ?_); (focus ((conv => whnf); (repeat' first | exact trivial | ((refine And.intro ?_ ?_); (focus ((conv => whnf); (first | exact ⟨rfl, rfl⟩ | exact ⟨by decide, by decide, rfl, rfl⟩ | exact ⟨by omega, by omega, rfl, rfl⟩ | exact ⟨by (simp only [List.length_drop, List.length_take]; omega), rfl, rfl⟩ | exact ⟨_, rfl, rfl, rfl⟩ | exact ⟨by omega, _, by assumption, rfl, rfl, rfl⟩ | ((refine ACall.of_pure (by assumption) (by rfl) ?_); (refine And.intro ?_ ?_ <;> rfl))))); (conv => whnf)))))
  (conv => whnf); (repeat' ((first | (with_reducible refine Box.mk ?_) | ((with_reducible show _ ∧ _ ∧ _); refine ⟨by omega, by omega, ?_⟩) | fail) <;> conv => whnf))
  refine ⟨bcl_all b, ?_⟩
  rw [hsl]
  (conv => whnf); repeat' ((with_reducible refine Box.mk ?_) <;> conv => whnf)
  refine ACall.weak [(0, .ptr 5 0), (1, .sl (bcl (b.drop 16)))] (az := [.ptr 5 0, .sl (bcl (b.drop 16))]) rfl rfl (by exact weak_nilrow (H' := [.box 67 [.own 1], .map pk2 (ces es) clk, .box 29 [.int .u32 0, .int .u32 0, .int .u32 0, .int .i64 0, .int .i64 0], .box 29 [.int .u32 (hTime b : Int), .int .u32 (hSeq b : Int), .int .u32 (hDom b : Int), .int .i64 0, .int .i64 0], .box 67 [.nilm], .box 72 [.ptr 4 0, .int .u32 (hTime b : Int), .int .u32 (hSeq b : Int), .int .u32 (hDom b : Int), .int .i64 0, .int .i64 0, .own 6]]) 55 22 (by decide) ⟨.inl rfl, .inl rfl, trivial⟩ ⟨.inl rfl, .inl rfl, .inl rfl, .inl rfl, .inl rfl, .inr ⟨rfl, .inl rfl, .inl rfl, .inl rfl, .inl rfl, .inl rfl, .inl rfl, .inr ⟨rfl, rfl⟩, trivial⟩, trivial⟩) ?_
  refine aW [4, 5, 6] q3 rfl rfl rfl ?_
  (conv => whnf); (repeat' ((with_reducible first | refine Box.mk ?_ | refine And.intro (fun _ => ?_) (fun _ => ?_) | fail) <;> conv => whnf))
  ·exact absurd (by assumption) he
  exact weak_ren_to [(0, true), (1, true)] rfl rfl rfl ⟨rfl, trivial⟩
 ·intro he
  subst he
  refine DCall.of_awp tok mixed fn8 (Nat.le_of_ble_eq_true rfl) ?_
  (conv => whnf); (repeat' ((with_reducible first | refine Box.mk ?_ | refine And.intro (fun _ => ?_) (fun _ => ?_) | fail) <;> conv => whnf))
  all_goals try contradiction
  refine aW [] q1 rfl rfl rfl ?_
  (conv => whnf); (repeat' ((with_reducible first | refine Box.mk ?_ | refine And.intro (fun _ => ?_) (fun _ => ?_) | fail) <;> conv => whnf))
  rotate_left
  ·exact absurd rfl (by assumption)
  refine ⟨[(2001, []), (3002, [1])], by kernel_rfl, ?_⟩
  (conv => whnf); repeat' ((with_reducible refine Box.mk ?_) <;> conv => whnf)
  refine aDw [0, 1] q2 rfl rfl rfl ?_
  (conv => whnf); repeat' ((with_reducible refine Box.mk ?_) <;> conv => whnf)
  (refine And.intro ?_ ?_); (focus ((conv => whnf); (repeat' first | exact trivial | ((refine And.intro ?_ ?_); (focus ((conv => whnf); (first | exact ⟨rfl, rfl⟩ | exact ⟨by decide, by decide, rfl, rfl⟩ | exact ⟨by omega, by omega, rfl, rfl⟩ | exact ⟨by (simp only [List.length_drop, List.length_take]; omega), rfl, rfl⟩ | exact ⟨_, rfl, rfl, rfl⟩ | exact ⟨by omega, _, by assumption, rfl, rfl, rfl⟩ | ((refine ACall.of_pure (by assumption) (by rfl) ?_); (refine And.intro ?_ ?_ <;> rfl))))); (conv => whnf)))))
  (conv => whnf); (repeat' ((first | (with_reducible refine Box.mk ?_) | ((with_reducible show _ ∧ _ ∧ _); refine ⟨by omega, by omega, ?_⟩) | fail) <;> conv => whnf))
  refine ⟨bcl_all b, ?_⟩
  rw [hsl]
  (conv => whnf); repeat' ((with_reducible refine Box.mk ?_) <;> conv => whnf)
  refine ACall.weak [(0, .ptr 5 0), (1, .sl (bcl (b.drop 16)))] (az := [.ptr 5 0, .sl (bcl (b.drop 16))]) rfl rfl (by exact weak_nilrow (H' := [.box 67 [.own 1], .map pk2 (ces es) clk, .box 29 [.int .u32 0, .int .u32 0, .int .u32 0, .int .i64 0, .int .i64 0], .box 29 [.int .u32 (hTime b : Int), .int .u32 (hSeq b : Int), .int .u32 (hDom b : Int), .int .i64 0, .int .i64 0], .box 67 [.nilm], .box 72 [.ptr 4 0, .int .u32 (hTime b : Int), .int .u32 (hSeq b : Int), .int .u32 (hDom b : Int), .int .i64 0, .int .i64 0, .own 6]]) 55 22 (by decide) ⟨.inl rfl, .inl rfl, trivial⟩ ⟨.inl rfl, .inl rfl, .inl rfl, .inl rfl, .inl rfl, .inr ⟨rfl, .inl rfl, .inl rfl, .inl rfl, .inl rfl, .inl rfl, .inl rfl, .inr ⟨rfl, rfl⟩, trivial⟩, trivial⟩) ?_
  refine aW [4, 5, 6] q3 rfl rfl rfl ?_
  (conv => whnf); (repeat' ((with_reducible first | refine Box.mk ?_ | refine And.intro (fun _ => ?_) (fun _ => ?_) | fail) <;> conv => whnf))
  rotate_left
  ·exact absurd rfl (by assumption)
  refine ⟨[], by kernel_rfl, ?_⟩
  (conv => whnf); repeat' ((with_reducible refine Box.mk ?_) <;> conv => whnf)
  exact weak_cr 7 [(0, true), (1, true), (4, true), (8, true)] rfl rfl rfl rfl rfl

set_option maxHeartbeats 4000000 in
theorem read_FNN (es : Es) (clk : Nat) (es1 : Es) (clk1 : Nat) (b : Bs) (hb : b.length ≤ 1000000000) (h : headE b = 0)
  (q2 : DCall P 21 [.ptr 0 0] (CHp es clk) (.ptr 2 0) ((CHp es clk) ++ [.box 67 [.nilm]]))
  (es2 : Es) (clk2 ti sq dm lo il : Nat) (ou : List Rc) (er : Int) (q3 : DCall P 22 [.ptr 1 0, .sl (bcl (b.drop 16))] (dN ⟨⟨true, es1, clk1⟩, hTime b, hSeq b, hDom b, 0, 0, []⟩) (.int .i64 er) (qN ⟨⟨true, es2, clk2⟩, ti, sq, dm, lo, il, ou⟩)) :
  (er ≠ 0 → DCall P 8 [.ptr 0 0, .sl (bcl b)] (CHp es clk) (badV er) (CHp es clk)) ∧
  (er = 0 → DCall P 8 [.ptr 0 0, .sl (bcl b)] (CHp es clk) (goodV 2 ⟨⟨true, es2, clk2⟩, ti, sq, dm, lo, il, ou⟩) (CHp es clk ++ cHat 2 ⟨true, es2, clk2⟩)) := by
 have q1 := head_ok b hb
 rw [if_neg (fun hx => hx h), h] at q1
 have hbl := bcl_len b
 have h16 : 16 ≤ b.length := by
  by_cases hx : 16 ≤ b.length
  ·exact hx
  ·unfold headE at h; rw [if_pos (by omega)] at h; cases h
 have hsl : List.drop (16 : Int).toNat (List.take (bcl b).length (bcl b)) = bcl (b.drop 16) := by rw [List.take_length]; exact (List.map_drop ..).symm
 constructor
 ·intro he
  refine DCall.of_awp tok mixed fn8 (Nat.le_of_ble_eq_true rfl) ?_
  (conv => whnf); (repeat' ((with_reducible first | refine Box.mk ?_ | refine And.intro (fun _ => ?_) (fun _ => ?_) | fail) <;> conv => whnf))
  all_goals try contradiction
  refine aW [] q1 rfl rfl rfl ?_
  (conv => whnf); (repeat' ((with_reducible first | refine Box.mk ?_ | refine And.intro (fun _ => ?_) (fun _ => ?_) | fail) <;> conv => whnf))
  rotate_left
  ·exact absurd rfl (by assumption)
  refine ⟨[(2001, []), (3002, [1])], by kernel_rfl, ?_⟩
  (conv => whnf); repeat' ((with_reducible refine Box.mk ?_) <;> conv => whnf)
  refine aDw [0, 1] q2 rfl rfl rfl ?_
  (conv => whnf); repeat' ((with_reducible refine Box.mk ?_) <;> conv => whnf)
  (refine And.intro ?_ ?_); (focus ((conv => whnf); (repeat' first | exact trivial | ((refine And.intro ?_ ?_); (focus ((conv => whnf); (first | exact ⟨rfl, rfl⟩ | exact ⟨by decide, by decide, rfl, rfl⟩ | exact ⟨by omega, by omega, rfl, rfl⟩ | exact ⟨by (simp only [List.length_drop, List.length_take]; omega), rfl, rfl⟩ | exact ⟨_, rfl, rfl, rfl⟩ | exact ⟨by omega, _, by assumption, rfl, rfl, rfl⟩ | ((refine ACall.of_pure (by assumption) (by rfl) ?_); (refine And.intro ?_ ?_ <;> rfl))))); (conv => whnf)))))
  (conv => whnf); (repeat' ((first | (with_reducible refine Box.mk ?_) | ((with_reducible show _ ∧ _ ∧ _); refine ⟨by omega, by omega, ?_⟩) | fail) <;> conv => whnf))
  refine ⟨bcl_all b, ?_⟩
  rw [hsl]
  (conv => whnf); repeat' ((with_reducible refine Box.mk ?_) <;> conv => whnf)
  refine ACall.weak [(0, .ptr 5 0), (1, .sl (bcl (b.drop 16)))] (az := [.ptr 5 0, .sl (bcl (b.drop 16))]) rfl rfl (by exact weak_nilrow (H' := [.box 67 [.own 1], .map pk2 (ces es) clk, .box 29 [.int .u32 0, .int .u32 0, .int .u32 0, .int .i64 0, .int .i64 0], .box 29 [.int .u32 (hTime b : Int), .int .u32 (hSeq b : Int), .int .u32 (hDom b : Int), .int .i64 0, .int .i64 0], .box 67 [.nilm], .box 72 [.ptr 4 0, .int .u32 (hTime b : Int), .int .u32 (hSeq b : Int), .int .u32 (hDom b : Int), .int .i64 0, .int .i64 0, .own 6]]) 55 22 (by decide) ⟨.inl rfl, .inl rfl, trivial⟩ ⟨.inl rfl, .inl rfl, .inl rfl, .inl rfl, .inl rfl, .inr ⟨rfl, .inl rfl, .inl rfl, .inl rfl, .inl rfl, .inl rfl, .inl rfl, .inr ⟨rfl, rfl⟩, trivial⟩, trivial⟩) ?_
  refine aW [4, 5, 6] q3 rfl rfl rfl ?_
  (conv => whnf); (repeat' ((with_reducible first | refine Box.mk ?_ | refine And.intro (fun _ => ?_) (fun _ => ?_) | fail) <;> conv => whnf))
  ·exact absurd (by assumption) he
  exact weak_ren_to [(0, true), (1, true)] rfl rfl rfl ⟨rfl, trivial⟩
 ·intro he
  subst he
  refine DCall.of_awp tok mixed fn8 (Nat.le_of_ble_eq_true rfl) ?_
  (conv => whnf); (repeat' ((with_reducible first | refine Box.mk ?_ | refine And.intro (fun _ => ?_) (fun _ => ?_) | fail) <;> conv => whnf))
  all_goals try contradiction
  refine aW [] q1 rfl rfl rfl ?_
  (conv => whnf); (repeat' ((with_reducible first | refine Box.mk ?_ | refine And.intro (fun _ => ?_) (fun _ => ?_) | fail) <;> conv => whnf))
  rotate_left
  ·exact absurd rfl (by assumption)
  refine ⟨[(2001, []), (3002, [1])], by kernel_rfl, ?_⟩
  (conv => whnf); repeat' ((with_reducible refine Box.mk ?_) <;> conv => whnf)
  refine aDw [0, 1] q2 rfl rfl rfl ?_
  (conv => whnf); repeat' ((with_reducible refine Box.mk ?_) <;> conv => whnf)
  (refine And.intro ?_ ?_); (focus ((conv => whnf); (repeat' first | exact trivial | ((refine And.intro ?_ ?_); (focus ((conv => whnf); (first | exact ⟨rfl, rfl⟩ | exact ⟨by decide, by decide, rfl, rfl⟩ | exact ⟨by omega, by omega, rfl, rfl⟩ | exact ⟨by (simp only [List.length_drop, List.length_take]; omega), rfl, rfl⟩ | exact ⟨_, rfl, rfl, rfl⟩ | exact ⟨by omega, _, by assumption, rfl, rfl, rfl⟩ | ((refine ACall.of_pure (by assumption) (by rfl) ?_); (refine And.intro ?_ ?_ <;> rfl))))); (conv => whnf)))))
  (conv => whnf); (repeat' ((first | (with_reducible refine Box.mk ?_) | ((with_reducible show _ ∧ _ ∧ _); refine ⟨by omega, by omega, ?_⟩) | fail) <;> conv => whnf))
  refine ⟨bcl_all b, ?_⟩
  rw [hsl]
  (conv => whnf); repeat' ((with_reducible refine Box.mk ?_) <;> conv => whnf)
  refine ACall.weak [(0, .ptr 5 0), (1, .sl (bcl (b.drop 16)))] (az := [.ptr 5 0, .sl (bcl (b.drop 16))]) rfl rfl (by exact weak_nilrow (H' := [.box 67 [.own 1], .map pk2 (ces es) clk, .box 29 [.int .u32 0, .int .u32 0, .int .u32 0, .int .i64 0, .int .i64 0], .box 29 [.int .u32 (hTime b : Int), .int .u32 (hSeq b : Int), .int .u32 (hDom b : Int), .int .i64 0, .int .i64 0], .box 67 [.nilm], .box 72 [.ptr 4 0, .int .u32 (hTime b : Int), .int .u32 (hSeq b : Int), .int .u32 (hDom b : Int), .int .i64 0, .int .i64 0, .own 6]]) 55 22 (by decide) ⟨.inl rfl, .inl rfl, trivial⟩ ⟨.inl rfl, .inl rfl, .inl rfl, .inl rfl, .inl rfl, .inr ⟨rfl, .inl rfl, .inl rfl, .inl rfl, .inl rfl, .inl rfl, .inl rfl, .inr ⟨rfl, rfl⟩, trivial⟩, trivial⟩) ?_
  refine aW [4, 5, 6] q3 rfl rfl rfl ?_
  (conv => whnf); (repeat' ((with_reducible first | refine Box.mk ?_ | refine And.intro (fun _ => ?_) (fun _ => ?_) | fail) <;> conv => whnf))
  rotate_left
  ·exact absurd rfl (by assumption)
  refine ⟨[], by kernel_rfl, ?_⟩
  (conv => whnf); repeat' ((with_reducible refine Box.mk ?_) <;> conv => whnf)
  exact weak_cr 7 [(0, true), (1, true), (4, true)] rfl rfl rfl rfl rfl

theorem read_headT (b : Bs) (hb : b.length ≤ 1000000000) (h : headE b ≠ 0) : DCall P 8 [.ptr 0 0, .sl (bcl b)] [.box 67 [.nilm]] (badV (headE b)) [.box 67 [.nilm]] := by
 have q1 := head_ok b hb
 rw [if_pos h] at q1
 generalize headE b = e at *
 refine DCall.of_awp tok mixed fn8 (Nat.le_of_ble_eq_true rfl) ?_
 (conv => whnf); (repeat' ((with_reducible first | refine Box.mk ?_ | refine And.intro (fun _ => ?_) (fun _ => ?_) | fail) <;> conv => whnf))
 all_goals try contradiction
 refine aW [] q1 rfl rfl rfl ?_
 (conv => whnf); (repeat' ((with_reducible first | refine Box.mk ?_ | refine And.intro (fun _ => ?_) (fun _ => ?_) | fail) <;> conv => whnf))
 ·exact absurd (by assumption) h
 exact weak_ren_to [(0, true)] rfl rfl rfl ⟨rfl, trivial⟩

set_option maxHeartbeats 4000000 in
theorem read_TFF (es1 : Es) (clk1 : Nat) (b : Bs) (hb : b.length ≤ 1000000000) (h : headE b = 0)
  (q2 : DCall P 21 [.ptr 0 0] [.box 67 [.nilm]] (.ptr 1 0) ([.box 67 [.nilm]] ++ [.box 67 [.own 2], .map pk2 (ces es1) clk1]))
  (es2 : Es) (clk2 ti sq dm lo il : Nat) (ou : List Rc) (er : Int) (q3 : DCall P 22 [.ptr 1 0, .sl (bcl (b.drop 16))] (dF ⟨⟨false, es1, clk1⟩, hTime b, hSeq b, hDom b, 0, 0, []⟩) (.int .i64 er) (qF ⟨⟨false, es2, clk2⟩, ti, sq, dm, lo, il, ou⟩)) :
  (er ≠ 0 → DCall P 8 [.ptr 0 0, .sl (bcl b)] [.box 67 [.nilm]] (badV er) [.box 67 [.nilm]]) ∧
  (er = 0 → DCall P 8 [.ptr 0 0, .sl (bcl b)] [.box 67 [.nilm]] (goodV 1 ⟨⟨false, es2, clk2⟩, ti, sq, dm, lo, il, ou⟩) ([.box 67 [.nilm]] ++ cHat 1 ⟨false, es2, clk2⟩)) := by
 have q1 := head_ok b hb
 rw [if_neg (fun hx => hx h), h] at q1
 have hbl := bcl_len b
 have h16 : 16 ≤ b.length := by
  by_cases hx : 16 ≤ b.length
  ·exact hx
  ·unfold headE at h; rw [if_pos (by omega)] at h; cases h
 have hsl : List.drop (16 : Int).toNat (List.take (bcl b).length (bcl b)) = bcl (b.drop 16) := by rw [List.take_length]; exact (List.map_drop ..).symm
 constructor
 ·intro he
  refine DCall.of_awp tok mixed fn8 (Nat.le_of_ble_eq_true rfl) ?_
  (conv => whnf); (repeat' ((with_reducible first | refine Box.mk ?_ | refine And.intro (fun _ => ?_) (fun _ => ?_) | fail) <;> conv => whnf))
  all_goals try contradiction
  refine aW [] q1 rfl rfl rfl ?_
  (conv => whnf); (repeat' ((with_reducible first | refine Box.mk ?_ | refine And.intro (fun _ => ?_) (fun _ => ?_) | fail) <;> conv => whnf))
  rotate_left
  ·exact absurd rfl (by assumption)
  refine ⟨[(2001, []), (3002, [1])], by kernel_rfl, ?_⟩
  (conv => whnf); repeat' ((with_reducible refine Box.mk ?_) <;> conv => whnf)
  refine aDw [0] q2 rfl rfl rfl ?_
  (conv => whnf); repeat' ((with_reducible refine Box.mk ?_) <;> conv => whnf)
  (refine And.intro ?_ ?_); (focus ((conv => whnf); (repeat' first | exact trivial | ((refine And.intro ?_ ?_); (focus ((conv => whnf); (first | exact ⟨rfl, rfl⟩ | exact ⟨by decide, by decide, rfl, rfl⟩ | exact ⟨by omega, by omega, rfl, rfl⟩ | exact ⟨by (simp only [List.length_drop, List.length_take]; omega), rfl, rfl⟩ | exact ⟨_, rfl, rfl, rfl⟩ | exact ⟨by omega, _, by assumption, rfl, rfl, rfl⟩ | ((refine ACall.of_pure (by assumption) (by rfl) ?_); (refine And.intro ?_ ?_ <;> rfl))))); (conv => whnf)))))
  (conv => whnf); (repeat' ((first | (with_reducible refine Box.mk ?_) | ((with_reducible show _ ∧ _ ∧ _); refine ⟨by omega, by omega, ?_⟩) | fail) <;> conv => whnf))
  refine ⟨bcl_all b, ?_⟩
  rw [hsl]
  (conv => whnf); repeat' ((with_reducible refine Box.mk ?_) <;> conv => whnf)
  refine ACall.weak [(0, .ptr 5 0), (1, .sl (bcl (b.drop 16)))] (az := [.ptr 5 0, .sl (bcl (b.drop 16))]) rfl rfl (by exact weak_nilrow (H' := [.box 67 [.nilm], .box 29 [.int .u32 0, .int .u32 0, .int .u32 0, .int .i64 0, .int .i64 0], .box 29 [.int .u32 (hTime b : Int), .int .u32 (hSeq b : Int), .int .u32 (hDom b : Int), .int .i64 0, .int .i64 0], .box 67 [.own 4], .map pk2 (ces es1) clk1, .box 72 [.ptr 3 0, .int .u32 (hTime b : Int), .int .u32 (hSeq b : Int), .int .u32 (hDom b : Int), .int .i64 0, .int .i64 0, .own 6]]) 55 22 (by decide) ⟨.inl rfl, .inl rfl, trivial⟩ ⟨.inl rfl, .inl rfl, .inl rfl, .inl rfl, .inl rfl, .inr ⟨rfl, .inl rfl, .inl rfl, .inl rfl, .inl rfl, .inl rfl, .inl rfl, .inr ⟨rfl, rfl⟩, trivial⟩, trivial⟩) ?_
  refine aW [3, 5, 6, 4] q3 rfl rfl rfl ?_
  (conv => whnf); (repeat' ((with_reducible first | refine Box.mk ?_ | refine And.intro (fun _ => ?_) (fun _ => ?_) | fail) <;> conv => whnf))
  ·exact absurd (by assumption) he
  exact weak_ren_to [(0, true)] rfl rfl rfl ⟨rfl, trivial⟩
 ·intro he
  subst he
  refine DCall.of_awp tok mixed fn8 (Nat.le_of_ble_eq_true rfl) ?_
  (conv => whnf); (repeat' ((with_reducible first | refine Box.mk ?_ | refine And.intro (fun _ => ?_) (fun _ => ?_) | fail) <;> conv => whnf))
  all_goals try contradiction
  refine aW [] q1 rfl rfl rfl ?_
  (conv => whnf); (repeat' ((with_reducible first | refine Box.mk ?_ | refine And.intro (fun _ => ?_) (fun _ => ?_) | fail) <;> conv => whnf))
  rotate_left
  ·exact absurd rfl (by assumption)
  refine ⟨[(2001, []), (3002, [1])], by kernel_rfl, ?_⟩
  (conv => whnf); repeat' ((with_reducible refine Box.mk ?_) <;> conv => whnf)
  refine aDw [0] q2 rfl rfl rfl ?_
  (conv => whnf); repeat' ((with_reducible refine Box.mk ?_) <;> conv => whnf)
  (refine And.intro ?_ ?_); (focus ((conv => whnf); (repeat' first | exact trivial | ((refine And.intro ?_ ?_); (focus ((conv => whnf); (first | exact ⟨rfl, rfl⟩ | exact ⟨by decide, by decide, rfl, rfl⟩ | exact ⟨by omega, by omega, rfl, rfl⟩ | exact ⟨by (simp only [List.length_drop, List.length_take]; omega), rfl, rfl⟩ | exact ⟨_, rfl, rfl, rfl⟩ | exact ⟨by omega, _, by assumption, rfl, rfl, rfl⟩ | ((refine ACall.of_pure (by assumption) (by rfl) ?_); (refine And.intro ?_ ?_ <;> rfl))))); (conv => whnf)))))
  (conv => whnf); (repeat' ((first | (with_reducible refine Box.mk ?_) | ((with_reducible show _ ∧ _ ∧ _); refine ⟨by omega, by omega, ?_⟩) | fail) <;> conv => whnf))
  refine ⟨bcl_all b, ?_⟩
  rw [hsl]
  (conv => whnf); repeat' ((with_reducible refine Box.mk ?_) <;> conv => whnf)
  refine ACall.weak [(0, .ptr 5 0), (1, .sl (bcl (b.drop 16)))] (az := [.ptr 5 0, .sl (bcl (b.drop 16))]) rfl rfl (by exact weak_nilrow (H' := [.box 67 [.nilm], .box 29 [.int .u32 0, .int .u32 0, .int .u32 0, .int .i64 0, .int .i64 0], .box 29 [.int .u32 (hTime b : Int), .int .u32 (hSeq b : Int), .int .u32 (hDom b : Int), .int .i64 0, .int .i64 0], .box 67 [.own 4], .map pk2 (ces es1) clk1, .box 72 [.ptr 3 0, .int .u32 (hTime b : Int), .int .u32 (hSeq b : Int), .int .u32 (hDom b : Int), .int .i64 0, .int .i64 0, .own 6]]) 55 22 (by decide) ⟨.inl rfl, .inl rfl, trivial⟩ ⟨.inl rfl, .inl rfl, .inl rfl, .inl rfl, .inl rfl, .inr ⟨rfl, .inl rfl, .inl rfl, .inl rfl, .inl rfl, .inl rfl, .inl rfl, .inr ⟨rfl, rfl⟩, trivial⟩, trivial⟩) ?_
  refine aW [3, 5, 6, 4] q3 rfl rfl rfl ?_
  (conv => whnf); (repeat' ((with_reducible first | refine Box.mk ?_ | refine And.intro (fun _ => ?_) (fun _ => ?_) | fail) <;> conv => whnf))
  rotate_left
  ·exact absurd rfl (by assumption)
  refine ⟨[], by kernel_rfl, ?_⟩
  (conv => whnf); repeat' ((with_reducible refine Box.mk ?_) <;> conv => whnf)
  exact weak_cr 7 [(0, true), (3, true), (4, true)] rfl rfl rfl rfl rfl

set_option maxHeartbeats 4000000 in
theorem read_TNM (es1 : Es) (clk1 : Nat) (b : Bs) (hb : b.length ≤ 1000000000) (h : headE b = 0)
  (q2 : DCall P 21 [.ptr 0 0] [.box 67 [.nilm]] (.ptr 1 0) ([.box 67 [.nilm]] ++ [.box 67 [.nilm]]))
  (es2 : Es) (clk2 ti sq dm lo il : Nat) (ou : List Rc) (er : Int) (q3 : DCall P 22 [.ptr 1 0, .sl (bcl (b.drop 16))] (dN ⟨⟨true, es1, clk1⟩, hTime b, hSeq b, hDom b, 0, 0, []⟩) (.int .i64 er) (qM ⟨⟨false, es2, clk2⟩, ti, sq, dm, lo, il, ou⟩)) :
  (er ≠ 0 → DCall P 8 [.ptr 0 0, .sl (bcl b)] [.box 67 [.nilm]] (badV er) [.box 67 [.nilm]]) ∧
  (er = 0 → DCall P 8 [.ptr 0 0, .sl (bcl b)] [.box 67 [.nilm]] (goodV 1 ⟨⟨false, es2, clk2⟩, ti, sq, dm, lo, il, ou⟩) ([.box 67 [.nilm]] ++ cHat 1 ⟨false, es2, clk2⟩)) := by
 have q1 := head_ok b hb
 rw [if_neg (fun hx => hx h), h] at q1
 have hbl := bcl_len b
 have h16 : 16 ≤ b.length := by
  by_cases hx : 16 ≤ b.length
  ·exact hx
  ·unfold headE at h; rw [if_pos (by omega)] at h; cases h
 have hsl : List.drop (16 : Int).toNat (List.take (bcl b).length (bcl b)) = bcl (b.drop 16) := by rw [List.take_length]; exact (List.map_drop ..).symm
 constructor
 ·intro he
  refine DCall.of_awp tok mixed fn8 (Nat.le_of_ble_eq_true rfl) ?_
  (conv => whnf); (repeat' ((with_reducible first | refine Box.mk ?_ | refine And.intro (fun _ => ?_) (fun _ => ?_) | fail) <;> conv => whnf))
  all_goals try contradiction
  refine aW [] q1 rfl rfl rfl ?_
  (conv => whnf); (repeat' ((with_reducible first | refine Box.mk ?_ | refine And.intro (fun _ => ?_) (fun _ => ?_) | fail) <;> conv => whnf))
  rotate_left
  ·exact absurd rfl (by assumption)
  refine ⟨[(2001, []), (3002, [1])], by kernel_rfl, ?_⟩
  (conv => whnf); repeat' ((with_reducible refine Box.mk ?_) <;> conv => whnf)
  refine aDw [0] q2 rfl rfl rfl ?_
  (conv => whnf); repeat' ((with_reducible refine Box.mk ?_) <;> conv => whnf)
  (refine And.intro ?_ ?_); (focus ((conv => whnf); (repeat' first | exact trivial | ((refine And.intro ?_ ?_); (focus ((conv => whnf); (first | exact ⟨rfl, rfl⟩ | exact ⟨by decide, by decide, rfl, rfl⟩ | exact ⟨by omega, by omega, rfl, rfl⟩ | exact ⟨by (simp only [List.length_drop, List.length_take]; omega), rfl, rfl⟩ | exact ⟨_, rfl, rfl, rfl⟩ | exact ⟨by omega, _, by assumption, rfl, rfl, rfl⟩ | ((refine ACall.of_pure (by assumption) (by rfl) ?_); (refine And.intro ?_ ?_ <;> rfl))))); (conv => whnf)))))
  (conv => whnf); (repeat' ((first | (with_reducible refine Box.mk ?_) | ((with_reducible show _ ∧ _ ∧ _); refine ⟨by omega, by omega, ?_⟩) | fail) <;> conv => whnf))
  refine ⟨bcl_all b, ?_⟩
  rw [hsl]
  (conv => whnf); repeat' ((with_reducible refine Box.mk ?_) <;> conv => whnf)
  refine ACall.weak [(0, .ptr 4 0), (1, .sl (bcl (b.drop 16)))] (az := [.ptr 4 0, .sl (bcl (b.drop 16))]) rfl rfl (by exact weak_nilrow (H' := [.box 67 [.nilm], .box 29 [.int .u32 0, .int .u32 0, .int .u32 0, .int .i64 0, .int .i64 0], .box 29 [.int .u32 (hTime b : Int), .int .u32 (hSeq b : Int), .int .u32 (hDom b : Int), .int .i64 0, .int .i64 0], .box 67 [.nilm], .box 72 [.ptr 3 0, .int .u32 (hTime b : Int), .int .u32 (hSeq b : Int), .int .u32 (hDom b : Int), .int .i64 0, .int .i64 0, .own 5]]) 55 22 (by decide) ⟨.inl rfl, .inl rfl, trivial⟩ ⟨.inl rfl, .inl rfl, .inl rfl, .inl rfl, .inr ⟨rfl, .inl rfl, .inl rfl, .inl rfl, .inl rfl, .inl rfl, .inl rfl, .inr ⟨rfl, rfl⟩, trivial⟩, trivial⟩) ?_
  refine aW [3, 4, 5] q3 rfl rfl rfl ?_
  (conv => whnf); (repeat' ((with_reducible first | refine Box.mk ?_ | refine And.intro (fun _ => ?_) (fun _ => ?_) | fail) <;> conv => whnf))
  ·exact absurd (by assumption) he
  exact weak_ren_to [(0, true)] rfl rfl rfl ⟨rfl, trivial⟩
 ·intro he
  subst he
  refine DCall.of_awp tok mixed fn8 (Nat.le_of_ble_eq_true rfl) ?_
  (conv => whnf); (repeat' ((with_reducible first | refine Box.mk ?_ | refine And.intro (fun _ => ?_) (fun _ => ?_) | fail) <;> conv => whnf))
  all_goals try contradiction
  refine aW [] q1 rfl rfl rfl ?_
  (conv => whnf); (repeat' ((with_reducible first | refine Box.mk ?_ | refine And.intro (fun _ => ?_) (fun _ => ?_) | fail) <;> conv => whnf))
  rotate_left
  ·exact absurd rfl (by assumption)
  refine ⟨[(2001, []), (3002, [1])], by kernel_rfl, ?_⟩
  (conv => whnf); repeat' ((with_reducible refine Box.mk ?_) <;> conv => whnf)
  refine aDw [0] q2 rfl rfl rfl ?_
  (conv => whnf); repeat' ((with_reducible refine Box.mk ?_) <;> conv => whnf)
  (refine And.intro ?_ ?_); (focus ((conv => whnf); (repeat' first | exact trivial | ((refine And.intro ?_ ?_); (focus ((conv => whnf); (first | exact ⟨rfl, rfl⟩ | exact ⟨by decide, by decide, rfl, rfl⟩ | exact ⟨by omega, by omega, rfl, rfl⟩ | exact ⟨by (simp only [List.length_drop, List.length_take]; omega), rfl, rfl⟩ | exact ⟨_, rfl, rfl, rfl⟩ | exact ⟨by omega, _, by assumption, rfl, rfl, rfl⟩ | ((refine ACall.of_pure (by assumption) (by rfl) ?_); (refine And.intro ?_ ?_ <;> rfl))))); (conv => whnf)))))
  (conv => whnf); (repeat' ((first | (with_reducible refine Box.mk ?_) | ((with_reducible show _ ∧ _ ∧ _); refine ⟨by omega, by omega, ?_⟩) | fail) <;> conv => whnf))
  refine ⟨bcl_all b, ?_⟩
  rw [hsl]
  (conv => whnf); repeat' ((with_reducible refine Box.mk ?_) <;> conv => whnf)
  refine ACall.weak [(0, .ptr 4 0), (1, .sl (bcl (b.drop 16)))] (az := [.ptr 4 0, .sl (bcl (b.drop 16))]) rfl rfl (by exact weak_nilrow (H' := [.box 67 [.nilm], .box 29 [.int .u32 0, .int .u32 0, .int .u32 0, .int .i64 0, .int .i64 0], .box 29 [.int .u32 (hTime b : Int), .int .u32 (hSeq b : Int), .int .u32 (hDom b : Int), .int .i64 0, .int .i64 0], .box 67 [.nilm], .box 72 [.ptr 3 0, .int .u32 (hTime b : Int), .int .u32 (hSeq b : Int), .int .u32 (hDom b : Int), .int .i64 0, .int .i64 0, .own 5]]) 55 22 (by decide) ⟨.inl rfl, .inl rfl, trivial⟩ ⟨.inl rfl, .inl rfl, .inl rfl, .inl rfl, .inr ⟨rfl, .inl rfl, .inl rfl, .inl rfl, .inl rfl, .inl rfl, .inl rfl, .inr ⟨rfl, rfl⟩, trivial⟩, trivial⟩) ?_
  refine aW [3, 4, 5] q3 rfl rfl rfl ?_
  (conv => whnf); (repeat' ((with_reducible first | refine Box.mk ?_ | refine And.intro (fun _ => ?_) (fun _ => ?_) | fail) <;> conv => whnf))
  rotate_left
  ·exact absurd rfl (by assumption)
  refine ⟨[], by kernel_rfl, ?_⟩
  (conv => whnf); repeat' ((with_reducible refine Box.mk ?_) <;> conv => whnf)
  exact weak_cr 6 [(0, true), (3, true), (7, true)] rfl rfl rfl rfl rfl

set_option maxHeartbeats 4000000 in
theorem read_TNN (es1 : Es) (clk1 : Nat) (b : Bs) (hb : b.length ≤ 1000000000) (h : headE b = 0)
  (q2 : DCall P 21 [.ptr 0 0] [.box 67 [.nilm]] (.ptr 1 0) ([.box 67 [.nilm]] ++ [.box 67 [.nilm]]))
  (es2 : Es) (clk2 ti sq dm lo il : Nat) (ou : List Rc) (er : Int) (q3 : DCall P 22 [.ptr 1 0, .sl (bcl (b.drop 16))] (dN ⟨⟨true, es1, clk1⟩, hTime b, hSeq b, hDom b, 0, 0, []⟩) (.int .i64 er) (qN ⟨⟨true, es2, clk2⟩, ti, sq, dm, lo, il, ou⟩)) :
  (er ≠ 0 → DCall P 8 [.ptr 0 0, .sl (bcl b)] [.box 67 [.nilm]] (badV er) [.box 67 [.nilm]]) ∧
  (er = 0 → DCall P 8 [.ptr 0 0, .sl (bcl b)] [.box 67 [.nilm]] (goodV 1 ⟨⟨true, es2, clk2⟩, ti, sq, dm, lo, il, ou⟩) ([.box 67 [.nilm]] ++ cHat 1 ⟨true, es2, clk2⟩)) := by
 have q1 := head_ok b hb
 rw [if_neg (fun hx => hx h), h] at q1
 have hbl := bcl_len b
 have h16 : 16 ≤ b.length := by
  by_cases hx : 16 ≤ b.length
  ·exact hx
  ·unfold headE at h; rw [if_pos (by omega)] at h; cases h
 have hsl : List.drop (16 : Int).toNat (List.take (bcl b).length (bcl b)) = bcl (b.drop 16) := by rw [List.take_length]; exact (List.map_drop ..).symm
 constructor
 ·intro he
  refine DCall.of_awp tok mixed fn8 (Nat.le_of_ble_eq_true rfl) ?_
  (conv => whnf); (repeat' ((with_reducible first | refine Box.mk ?_ | refine And.intro (fun _ => ?_) (fun _ => ?_) | fail) <;> conv => whnf))
  all_goals try contradiction
  refine aW [] q1 rfl rfl rfl ?_
  (conv => whnf); (repeat' ((with_reducible first | refine Box.mk ?_ | refine And.intro (fun _ => ?_) (fun _ => ?_) | fail) <;> conv => whnf))
  rotate_left
  ·exact absurd rfl (by assumption)
  refine ⟨[(2001, []), (3002, [1])], by kernel_rfl, ?_⟩
  (conv => whnf); repeat' ((with_reducible refine Box.mk ?_) <;> conv => whnf)
  refine aDw [0] q2 rfl rfl rfl ?_
  (conv => whnf); repeat' ((with_reducible refine Box.mk ?_) <;> conv => whnf)
  (refine And.intro ?_ ?_); (focus ((conv => whnf); (repeat' first | exact trivial | ((refine And.intro ?_ ?_); (focus ((conv => whnf); (first | exact ⟨rfl, rfl⟩ | exact ⟨by decide, by decide, rfl, rfl⟩ | exact ⟨by omega, by omega, rfl, rfl⟩ | exact ⟨by (simp only [List.length_drop, List.length_take]; omega), rfl, rfl⟩ | exact ⟨_, rfl, rfl, rfl⟩ | exact ⟨by omega, _, by assumption, rfl, rfl, rfl⟩ | ((refine ACall.of_pure (by assumption) (by rfl) ?_); (refine And.intro ?_ ?_ <;> rfl))))); (conv => whnf)))))
  (conv => whnf); (repeat' ((first | (with_reducible refine Box.mk ?_) | ((with_reducible show _ ∧ _ ∧ _); refine ⟨by omega, by omega, ?_⟩) | fail) <;> conv => whnf))
  refine ⟨bcl_all b, ?_⟩
  rw [hsl]
  (conv => whnf); repeat' ((with_reducible refine Box.mk ?_) <;> conv => whnf)
  refine ACall.weak [(0, .ptr 4 0), (1, .sl (bcl (b.drop 16)))] (az := [.ptr 4 0, .sl (bcl (b.drop 16))]) rfl rfl (by exact weak_nilrow (H' := [.box 67 [.nilm], .box 29 [.int .u32 0, .int .u32 0, .int .u32 0, .int .i64 0, .int .i64 0], .box 29 [.int .u32 (hTime b : Int), .int .u32 (hSeq b : Int), .int .u32 (hDom b : Int), .int .i64 0, .int .i64 0], .box 67 [.nilm], .box 72 [.ptr 3 0, .int .u32 (hTime b : Int), .int .u32 (hSeq b : Int), .int .u32 (hDom b : Int), .int .i64 0, .int .i64 0, .own 5]]) 55 22 (by decide) ⟨.inl rfl, .inl rfl, trivial⟩ ⟨.inl rfl, .inl rfl, .inl rfl, .inl rfl, .inr ⟨rfl, .inl rfl, .inl rfl, .inl rfl, .inl rfl, .inl rfl, .inl rfl, .inr ⟨rfl, rfl⟩, trivial⟩, trivial⟩) ?_
  refine aW [3, 4, 5] q3 rfl rfl rfl ?_
  (conv => whnf); (repeat' ((with_reducible first | refine Box.mk ?_ | refine And.intro (fun _ => ?_) (fun _ => ?_) | fail) <;> conv => whnf))
  ·exact absurd (by assumption) he
  exact weak_ren_to [(0, true)] rfl rfl rfl ⟨rfl, trivial⟩
 ·intro he
  subst he
  refine DCall.of_awp tok mixed fn8 (Nat.le_of_ble_eq_true rfl) ?_
  (conv => whnf); (repeat' ((with_reducible first | refine Box.mk ?_ | refine And.intro (fun _ => ?_) (fun _ => ?_) | fail) <;> conv => whnf))
  all_goals try contradiction
  refine aW [] q1 rfl rfl rfl ?_
  (conv => whnf); (repeat' ((with_reducible first | refine Box.mk ?_ | refine And.intro (fun _ => ?_) (fun _ => ?_) | fail) <;> conv => whnf))
  rotate_left
  ·exact absurd rfl (by assumption)
  refine ⟨[(2001, []), (3002, [1])], by kernel_rfl, ?_⟩
  (conv => whnf); repeat' ((with_reducible refine Box.mk ?_) <;> conv => whnf)
  refine aDw [0] q2 rfl rfl rfl ?_
  (conv => whnf); repeat' ((with_reducible refine Box.mk ?_) <;> conv => whnf)
  (refine And.intro ?_ ?_); (focus ((conv => whnf); (repeat' first | exact trivial | ((refine And.intro ?_ ?_); (focus ((conv => whnf); (first | exact ⟨rfl, rfl⟩ | exact ⟨by decide, by decide, rfl, rfl⟩ | exact ⟨by omega, by omega, rfl, rfl⟩ | exact ⟨by (simp only [List.length_drop, List.length_take]; omega), rfl, rfl⟩ | exact ⟨_, rfl, rfl, rfl⟩ | exact ⟨by omega, _, by assumption, rfl, rfl, rfl⟩ | ((refine ACall.of_pure (by assumption) (by rfl) ?_); (refine And.intro ?_ ?_ <;> rfl))))); (conv => whnf)))))
  (conv => whnf); (repeat' ((first | (with_reducible refine Box.mk ?_) | ((with_reducible show _ ∧ _ ∧ _); refine ⟨by omega, by omega, ?_⟩) | fail) <;> conv => whnf))
  refine ⟨bcl_all b, ?_⟩
  rw [hsl]
  (conv => whnf); repeat' ((with_reducible refine Box.mk ?_) <;> conv => whnf)
  refine ACall.weak [(0, .ptr 4 0), (1, .sl (bcl (b.drop 16)))] (az := [.ptr 4 0, .sl (bcl (b.drop 16))]) rfl rfl (by exact weak_nilrow (H' := [.box 67 [.nilm], .box 29 [.int .u32 0, .int .u32 0, .int .u32 0, .int .i64 0, .int .i64 0], .box 29 [.int .u32 (hTime b : Int), .int .u32 (hSeq b : Int), .int .u32 (hDom b : Int), .int .i64 0, .int .i64 0], .box 67 [.nilm], .box 72 [.ptr 3 0, .int .u32 (hTime b : Int), .int .u32 (hSeq b : Int), .int .u32 (hDom b : Int), .int .i64 0, .int .i64 0, .own 5]]) 55 22 (by decide) ⟨.inl rfl, .inl rfl, trivial⟩ ⟨.inl rfl, .inl rfl, .inl rfl, .inl rfl, .inr ⟨rfl, .inl rfl, .inl rfl, .inl rfl, .inl rfl, .inl rfl, .inl rfl, .inr ⟨rfl, rfl⟩, trivial⟩, trivial⟩) ?_
  refine aW [3, 4, 5] q3 rfl rfl rfl ?_
  (conv => whnf); (repeat' ((with_reducible first | refine Box.mk ?_ | refine And.intro (fun _ => ?_) (fun _ => ?_) | fail) <;> conv => whnf))
  rotate_left
  ·exact absurd rfl (by assumption)
  refine ⟨[], by kernel_rfl, ?_⟩
  (conv => whnf); repeat' ((with_reducible refine Box.mk ?_) <;> conv => whnf)
  exact weak_cr 6 [(0, true), (3, true)] rfl rfl rfl rfl rfl
end Go.Proofs.YtnajpmepcffnaaaGreatDoor
end
