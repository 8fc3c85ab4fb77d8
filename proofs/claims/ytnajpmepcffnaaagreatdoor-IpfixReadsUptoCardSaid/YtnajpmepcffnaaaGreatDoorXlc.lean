/- The program's contracts: texts joined into one: IpJ IpK IpL IpM IpN Brk Brk2 Ref17 Ref16 Ref16b Brk3 Ref17b Ref17c Ref17d Ref17e Ref15 Ref17f Ref17g IpO IpP LawIp1 LawSp1 LawSp2 LawSp3 LawRd Nil2 ArgsIp0 ArgsRd. -/
import Derived.Test.YtnajpmepcffnaaaGreatDoorXlb
import Derived.Test.YtnajpmepcffnaaaGreatDoorXvc
import Derived.Test.YtnajpmepcffnaaaGreatDoorXla
import Derived.Test.YtnajpmepcffnaaaGreatDoorXvb

section
/- ipfix: Read, put together; a set with its head; a message. -/
namespace Go.Proofs.YtnajpmepcffnaaaGreatDoor
open Go.Ve

theorem nl_sets : ∀ (n : Nat) {d : Rd Cs}, d.c.nl = false → ∀ (bs : Bs), (setsF opC n d bs).1.c.nl = false
 | 0, d, h, bs => h
 | n + 1, d, h, bs => by
  unfold setsF
  split
  ·exact h
  ·split
   ·exact h
   ·split
    ·exact h
    ·split
     ·exact h
     ·have h1 := nl_setF h (idB bs) ((bs.drop 4).take (cntB bs - 4))
      generalize setF opC d (idB bs) ((bs.drop 4).take (cntB bs - 4)) = q0 at *
      obtain ⟨d1, er⟩ := q0
      dsimp only at h1 ⊢
      split
      ·exact h1
      ·exact nl_sets n h1 _
theorem ri_sets : ∀ (n : Nat) {d : Rd Cs} {bs : Bs}, RI d bs.length → CI (setsF opC n d bs).1.c
 | 0, d, bs, h => h.ci
 | n + 1, d, bs, h => by
  unfold setsF
  split
  ·exact h.ci
  ·split
   ·exact h.ci
   ·split
    ·exact h.ci
    ·split
     ·exact h.ci
     ·have h1 := h.set (j := (bs.drop (cntB bs)).length) (idB bs) ((bs.drop 4).take (cntB bs - 4)) (by simp only [List.length_take, List.length_drop]; omega)
      generalize setF opC d (idB bs) ((bs.drop 4).take (cntB bs - 4)) = q0 at *
      obtain ⟨d1, er⟩ := q0
      dsimp only at h1 ⊢
      split
      ·exact h1.ci
      ·exact ri_sets n h1
theorem ri_zero {c : Cs} (hc : CI c) {b : Bs} (hb : b.length ≤ 1000000000) : RI (⟨c, hTime b, hSeq b, hDom b, 0, 0, []⟩ : Rd Cs) (b.drop 16).length :=
 ⟨hc, hDom_lt b, by show 0 + _ ≤ _; rw [List.length_drop]; omega, by show 0 + _ ≤ _; rw [List.length_drop]; omega, by show 0 + _ ≤ _; rw [List.length_drop]; omega⟩
theorem ci_read {c : Cs} (hc : CI c) {b : Bs} (hb : b.length ≤ 1000000000) : CI (readM opC c b).1.c := by
 unfold readM
 split
 ·exact hc
 ·exact ri_sets _ (ri_zero hc hb)
theorem ipRead_ok (c : Cs) (hc : CI c) (b : Bs) (hb : b.length ≤ 1000000000) :
  ((readM opC (cloneS c) b).2 ≠ 0 → DCall P 8 [.ptr 0 0, .sl (bcl b)] (cH c) (badV (readM opC (cloneS c) b).2) (cH c)) ∧
  ((readM opC (cloneS c) b).2 = 0 → DCall P 8 [.ptr 0 0, .sl (bcl b)] (cH c) (goodV (cH c).length (readM opC (cloneS c) b).1) (cH c ++ cHat (cH c).length (readM opC (cloneS c) b).1.c)) := by
 have q2 := clone_ok c hc
 have hc1 := hc.clone
 unfold readM
 by_cases hh : headE b ≠ 0
 ·rw [if_pos hh]
  refine ⟨fun _ => ?_, fun h => absurd h hh⟩
  obtain ⟨nl, es, clk⟩ := c
  cases nl
  ·exact read_headF es clk b hb hh
  ·exact read_headT b hb hh
 ·rw [if_neg hh]
  have h0 := Decidable.not_not.1 hh
  have hr := ri_zero hc1 hb
  generalize cloneS c = c1 at *
  have hb' : (b.drop 16).length ≤ 1000000000 := by rw [List.length_drop]; omega
  obtain ⟨nl1, es1, clk1⟩ := c1
  obtain ⟨nl, es, clk⟩ := c
  cases nl1
  ·have q3 := sets_F _ rfl (b.drop 16) hr hb'
   have hn := nl_sets (b.drop 16).length (d := ⟨⟨false, es1, clk1⟩, hTime b, hSeq b, hDom b, 0, 0, []⟩) rfl (b.drop 16)
   generalize setsF opC (b.drop 16).length ⟨⟨false, es1, clk1⟩, hTime b, hSeq b, hDom b, 0, 0, []⟩ (b.drop 16) = z at *
   obtain ⟨⟨⟨nl2, es2, clk2⟩, ti, sq, dm, lo, il, ou⟩, er⟩ := z
   have hn : nl2 = false := hn
   subst hn
   cases nl
   ·exact read_FFF es clk es1 clk1 b hb h0 q2 es2 clk2 ti sq dm lo il ou er q3
   ·exact read_TFF es1 clk1 b hb h0 q2 es2 clk2 ti sq dm lo il ou er q3
  ·have q3 := sets_N _ rfl (b.drop 16) hr hb'
   generalize setsF opC (b.drop 16).length ⟨⟨true, es1, clk1⟩, hTime b, hSeq b, hDom b, 0, 0, []⟩ (b.drop 16) = z at *
   obtain ⟨⟨⟨nl2, es2, clk2⟩, ti, sq, dm, lo, il, ou⟩, er⟩ := z
   cases nl2
   ·cases nl
    ·exact read_FNM es clk es1 clk1 b hb h0 q2 es2 clk2 ti sq dm lo il ou er q3
    ·exact read_TNM es1 clk1 b hb h0 q2 es2 clk2 ti sq dm lo il ou er q3
   ·cases nl
    ·exact read_FNN es clk es1 clk1 b hb h0 q2 es2 clk2 ti sq dm lo il ou er q3
    ·exact read_TNN es1 clk1 b hb h0 q2 es2 clk2 ti sq dm lo il ou er q3

def frameB (id : Nat) (b : Bs) : Bs := numB id 2 ++ numB (b.length + 4) 2 ++ b
theorem framed_ok (id : Nat) (hid : id < 65536) (b : Bs) (h : b.length ≤ 65531) : DCall P 60 [.int .i64 (id : Int), .sl (bcl b)] [] (.tup [.sl (bcl (frameB id b)), .int .i64 0]) [] := by
 have hbl := bcl_len b
 have w0 : IntKind.i64.wrap ((b.length : Int) + 4) = ((b.length + 4 : Nat) : Int) := by rw [wrap_i64 (by omega) (by omega)]; omega
 have w1 : IntKind.u64.wrap (id : Int) = id := wrap_u64 (by omega) (by omega)
 have w2 : IntKind.u64.wrap ((b.length + 4 : Nat) : Int) = ((b.length + 4 : Nat) : Int) := wrap_u64 (by omega) (by omega)
 have q1 := wNumN id 2
 rw [show szN 2 = 2 from rfl] at q1
 have l1 := numB_len id 2
 have q2 := wNumR (numB id 2) (by omega) (b.length + 4) 2
 rw [show szN 2 = 2 from rfl] at q2
 have l2 := numB_len (b.length + 4) 2
 have q3 := wRawR (numB id 2 ++ numB (b.length + 4) 2) (by rw [List.length_append]; omega) b (by omega)
 have q4 := wBytesR (numB id 2 ++ numB (b.length + 4) 2 ++ b) (by rw [List.length_append, List.length_append]; omega)
 rw [show numB id 2 ++ numB (b.length + 4) 2 ++ b = frameB id b from rfl] at q3 q4
 generalize numB id 2 ++ numB (b.length + 4) 2 = xx at *
 generalize numB id 2 = x at *
 refine DCall.of_awp tok mixed fn60 (Nat.le_of_ble_eq_true rfl) ?_
 (conv => whnf); (repeat' ((with_reducible first | refine Box.mk ?_ | refine And.intro (fun _ => ?_) (fun _ => ?_) | fail) <;> conv => whnf))
 ·exfalso; rename_i h2; rw [wrap_i64 (by omega) (by omega)] at h2; omega
 rw [hbl, w0, w1]
 refine aW [0] q1 rfl rfl rfl ?_
 (conv => whnf); repeat' ((with_reducible refine Box.mk ?_) <;> conv => whnf)
 rw [w2]
 refine aW [0, 1] q2 rfl rfl rfl ?_
 (conv => whnf); repeat' ((with_reducible refine Box.mk ?_) <;> conv => whnf)
 refine aW [0, 2] q3 rfl rfl rfl ?_
 (conv => whnf); repeat' ((with_reducible refine Box.mk ?_) <;> conv => whnf)
 refine aW [0, 3] q4 rfl rfl rfl ?_
 (conv => whnf); repeat' ((with_reducible refine Box.mk ?_) <;> conv => whnf)
 exact weak_ren_to [] rfl rfl rfl ⟨rfl, trivial⟩
end Go.Proofs.YtnajpmepcffnaaaGreatDoor
end

section
/- ipfix: Message. -/
namespace Go.Proofs.YtnajpmepcffnaaaGreatDoor
open Go.Ve

def bll (l : List Bs) : List (List AV) := l.map fun b => [.sl (bcl b)]
theorem bll_len (l : List Bs) : (bll l).length = l.length := List.length_map ..
theorem bll_get {l : List Bs} {i : Nat} {b : Bs} (h : l[i]? = some b) : (bll l)[(i : Int).toNat]? = some [.sl (bcl b)] := by
 rw [Int.toNat_natCast, bll, List.getElem?_map, h]; rfl
def hhv (h : Hh) : AV := .agg [.int .u32 (h.time : Int), .int .u32 (h.seq : Int), .int .u32 (h.dom : Int), .int .i64 h.lost, .int .i64 h.idle]
structure HhOk (h : Hh) : Prop where
 time : h.time < 4294967296
 seq : h.seq < 4294967296
 dom : h.dom < 4294967296
def hBox (h : Hh) : Ob := .box 29 [.int .u32 (h.time : Int), .int .u32 (h.seq : Int), .int .u32 (h.dom : Int), .int .i64 h.lost, .int .i64 h.idle]
theorem flat_take {l : List Bs} {i : Nat} {b : Bs} (h : l[i]? = some b) : (l.take (i + 1)).flatten = (l.take i).flatten ++ b := by
 have hi := (List.getElem?_eq_some_iff.1 h).1
 rw [List.take_add_one, h, List.flatten_append]
 show _ ++ (b ++ []) = _
 rw [List.append_nil]
theorem flat_le : ∀ (l : List Bs) (i : Nat), (l.take i).flatten.length ≤ l.flatten.length
 | [], i => by rw [List.take_nil]; exact Nat.le_refl _
 | x :: r, 0 => Nat.zero_le _
 | x :: r, i + 1 => by
  rw [List.take_succ_cons, List.flatten_cons, List.flatten_cons, List.length_append, List.length_append]
  have := flat_le r i
  omega
set_option maxHeartbeats 4000000 in
theorem message_ok (h : Hh) (hh : HhOk h) (l : List Bs) (hl : l.length ≤ 1000000000) (hn : 16 + l.flatten.length ≤ 65535) : DCall P 13 [hhv h, .sl (bll l)] [] (.tup [.sl (bcl (msgB h l.flatten)), .int .i64 0]) [] := by
 have hbl := bll_len l
 obtain ⟨h1, h2, h3⟩ := hh
 refine DCall.of_awp tok mixed fn13 (Nat.le_of_ble_eq_true rfl) ?_
 (conv => whnf); repeat' ((with_reducible refine Box.mk ?_) <;> conv => whnf)
 refine aloop (fun i : Nat => i ≤ l.length) (fun i => ⟨envL [(1, .sl (bll l)), (2, .ptr 0 0), (6, .int .i64 ((16 + (l.take i).flatten.length : Nat) : Int)), (12, .sl (bll l)), (13, .int .i64 ((bll l).length : Int)), (14, .int .i64 (i : Int))], [hBox h]⟩) (fun i => l.length - i) 0 (Nat.zero_le _) (weak_ren_to [(0, true)] rfl rfl rfl ⟨rfl, rfl, rfl, rfl, rfl, rfl, trivial⟩) ?_
 rintro i hi
 by_cases hlt : i < l.length
 ·have hx := List.getElem?_eq_getElem hlt
  have hft := flat_take hx
  generalize l[i] = b at *
  have hbb := bcl_len b
  have hfl : (l.take (i + 1)).flatten.length = (l.take i).flatten.length + b.length := by rw [hft, List.length_append]
  have hle := flat_le l (i + 1)
  (conv => whnf); (repeat' ((with_reducible first | refine Box.mk ?_ | refine And.intro (fun _ => ?_) (fun _ => ?_) | fail) <;> conv => whnf))
  rotate_left
  ·exfalso; rename_i h; have h : ¬ (i : Int) < ((bll l).length : Int) := h; omega
  refine ⟨by omega, [.sl (bcl b)], bll_get hx, rfl, ?_⟩
  (conv => whnf); (repeat' ((with_reducible first | refine Box.mk ?_ | refine And.intro (fun _ => ?_) (fun _ => ?_) | fail) <;> conv => whnf))
  ·exfalso
   rename_i h2
   rw [wrap_i64 (by omega) (by omega)] at h2
   omega
  ·refine ⟨i + 1, hlt, by omega, weak_ren_to [(0, true)] rfl rfl rfl ⟨rfl, rfl, ?_, rfl, rfl, wrap_nat (m := 1) (by omega), trivial⟩⟩
   show AV.int .i64 (IntKind.i64.wrap _) = _
   rw [wrap_i64 (by omega) (by omega)]
   exact congrArg (AV.int .i64) (by omega)
 ·have : i = l.length := by omega
  subst this
  rw [List.take_length]
  have a0 := wNumN 10 2
  rw [show szN 2 = 2 from rfl] at a0
  have l0 := numB_len 10 2
  generalize hx0 : numB 10 2 = x0 at *
  have a1 := wNumR x0 (by omega) (16 + l.flatten.length) 2
  rw [show szN 2 = 2 from rfl] at a1
  have l1 := numB_len (16 + l.flatten.length) 2
  have m1 : (x0 ++ numB (16 + l.flatten.length) 2).length = 4 := by rw [List.length_append]; omega
  generalize hx1 : x0 ++ numB (16 + l.flatten.length) 2 = x1 at *
  have a2 := wNumR x1 (by omega) h.time 4
  rw [show szN 4 = 4 from rfl] at a2
  have l2 := numB_len h.time 4
  have m2 : (x1 ++ numB h.time 4).length = 8 := by rw [List.length_append]; omega
  generalize hx2 : x1 ++ numB h.time 4 = x2 at *
  have a3 := wNumR x2 (by omega) h.seq 4
  rw [show szN 4 = 4 from rfl] at a3
  have l3 := numB_len h.seq 4
  have m3 : (x2 ++ numB h.seq 4).length = 12 := by rw [List.length_append]; omega
  generalize hx3 : x2 ++ numB h.seq 4 = x3 at *
  have a4 := wNumR x3 (by omega) h.dom 4
  rw [show szN 4 = 4 from rfl] at a4
  have l4 := numB_len h.dom 4
  have m4 : (x3 ++ numB h.dom 4).length = 16 := by rw [List.length_append]; omega
  generalize hx4 : x3 ++ numB h.dom 4 = x4 at *
  have w1 : IntKind.u64.wrap ((16 + l.flatten.length : Nat) : Int) = ((16 + l.flatten.length : Nat) : Int) := wrap_u64 (by omega) (by omega)
  have w2 : IntKind.u64.wrap (h.time : Int) = (h.time : Int) := wrap_u64 (by omega) (by omega)
  have w3 : IntKind.u64.wrap (h.seq : Int) = (h.seq : Int) := wrap_u64 (by omega) (by omega)
  have w4 : IntKind.u64.wrap (h.dom : Int) = (h.dom : Int) := wrap_u64 (by omega) (by omega)
  have hfin : msgB h l.flatten = x4 ++ l.flatten := by
   unfold msgB
   rw [← hx4, ← hx3, ← hx2, ← hx1, ← hx0]
   simp only [List.append_assoc]
  rw [hfin]
  (conv => whnf); (repeat' ((with_reducible first | refine Box.mk ?_ | refine And.intro (fun _ => ?_) (fun _ => ?_) | fail) <;> conv => whnf))
  ·exfalso; rename_i h; have h : ((l.length : Nat) : Int) < ((bll l).length : Int) := h; omega
  refine ⟨[(2000, []), (2003, []), (2007, []), (2011, []), (2015, []), (3002, [0]), (3005, [0, 3]), (3006, [0, 3]), (3009, [0, 3, 7]), (3010, [0, 3, 7]), (3013, [0, 3, 7, 11]), (3014, [0, 3, 7, 11])], by kernel_rfl, ?_⟩
  (conv => whnf); (repeat' ((with_reducible first | refine Box.mk ?_ | refine And.intro (fun _ => ?_) (fun _ => ?_) | refine (forceH_eq _ _).mpr ?_ | fail) <;> conv => whnf))
  refine aDw [1] a0 rfl rfl rfl ?_
  (conv => whnf); repeat' ((with_reducible refine Box.mk ?_) <;> conv => whnf)
  (refine And.intro ?_ ?_); (focus ((conv => whnf); (repeat' first | exact trivial | ((refine And.intro ?_ ?_); (focus ((conv => whnf); (first | exact ⟨rfl, rfl⟩ | exact ⟨by decide, by decide, rfl, rfl⟩ | exact ⟨by omega, by omega, rfl, rfl⟩ | exact ⟨by (simp only [List.length_drop, List.length_take]; omega), rfl, rfl⟩ | exact ⟨_, rfl, rfl, rfl⟩ | exact ⟨by omega, _, by assumption, rfl, rfl, rfl⟩ | ((refine ACall.of_pure (by assumption) (by rfl) ?_); (refine And.intro ?_ ?_ <;> rfl))))); (conv => whnf)))))
  (conv => whnf); repeat' ((with_reducible refine Box.mk ?_) <;> conv => whnf)
  rw [w1]
  refine aDw [1, 2] a1 rfl rfl rfl ?_
  (conv => whnf); repeat' ((with_reducible refine Box.mk ?_) <;> conv => whnf)
  (refine And.intro ?_ ?_); (focus ((conv => whnf); (repeat' first | exact trivial | ((refine And.intro ?_ ?_); (focus ((conv => whnf); (first | exact ⟨rfl, rfl⟩ | exact ⟨by decide, by decide, rfl, rfl⟩ | exact ⟨by omega, by omega, rfl, rfl⟩ | exact ⟨by (simp only [List.length_drop, List.length_take]; omega), rfl, rfl⟩ | exact ⟨_, rfl, rfl, rfl⟩ | exact ⟨by omega, _, by assumption, rfl, rfl, rfl⟩ | ((refine ACall.of_pure (by assumption) (by rfl) ?_); (refine And.intro ?_ ?_ <;> rfl))))); (conv => whnf)))))
  (conv => whnf); repeat' ((with_reducible refine Box.mk ?_) <;> conv => whnf)
  (refine And.intro ?_ ?_); (focus ((conv => whnf); (repeat' first | exact trivial | ((refine And.intro ?_ ?_); (focus ((conv => whnf); (first | exact ⟨rfl, rfl⟩ | exact ⟨by decide, by decide, rfl, rfl⟩ | exact ⟨by omega, by omega, rfl, rfl⟩ | exact ⟨by (simp only [List.length_drop, List.length_take]; omega), rfl, rfl⟩ | exact ⟨_, rfl, rfl, rfl⟩ | exact ⟨by omega, _, by assumption, rfl, rfl, rfl⟩ | ((refine ACall.of_pure (by assumption) (by rfl) ?_); (refine And.intro ?_ ?_ <;> rfl))))); (conv => whnf)))))
  (conv => whnf); repeat' ((with_reducible refine Box.mk ?_) <;> conv => whnf)
  rw [w2]
  refine aDw [1, 3] a2 rfl rfl rfl ?_
  (conv => whnf); repeat' ((with_reducible refine Box.mk ?_) <;> conv => whnf)
  (refine And.intro ?_ ?_); (focus ((conv => whnf); (repeat' first | exact trivial | ((refine And.intro ?_ ?_); (focus ((conv => whnf); (first | exact ⟨rfl, rfl⟩ | exact ⟨by decide, by decide, rfl, rfl⟩ | exact ⟨by omega, by omega, rfl, rfl⟩ | exact ⟨by (simp only [List.length_drop, List.length_take]; omega), rfl, rfl⟩ | exact ⟨_, rfl, rfl, rfl⟩ | exact ⟨by omega, _, by assumption, rfl, rfl, rfl⟩ | ((refine ACall.of_pure (by assumption) (by rfl) ?_); (refine And.intro ?_ ?_ <;> rfl))))); (conv => whnf)))))
  (conv => whnf); repeat' ((with_reducible refine Box.mk ?_) <;> conv => whnf)
  (refine And.intro ?_ ?_); (focus ((conv => whnf); (repeat' first | exact trivial | ((refine And.intro ?_ ?_); (focus ((conv => whnf); (first | exact ⟨rfl, rfl⟩ | exact ⟨by decide, by decide, rfl, rfl⟩ | exact ⟨by omega, by omega, rfl, rfl⟩ | exact ⟨by (simp only [List.length_drop, List.length_take]; omega), rfl, rfl⟩ | exact ⟨_, rfl, rfl, rfl⟩ | exact ⟨by omega, _, by assumption, rfl, rfl, rfl⟩ | ((refine ACall.of_pure (by assumption) (by rfl) ?_); (refine And.intro ?_ ?_ <;> rfl))))); (conv => whnf)))))
  (conv => whnf); repeat' ((with_reducible refine Box.mk ?_) <;> conv => whnf)
  rw [w3]
  refine aDw [1, 4] a3 rfl rfl rfl ?_
  (conv => whnf); repeat' ((with_reducible refine Box.mk ?_) <;> conv => whnf)
  (refine And.intro ?_ ?_); (focus ((conv => whnf); (repeat' first | exact trivial | ((refine And.intro ?_ ?_); (focus ((conv => whnf); (first | exact ⟨rfl, rfl⟩ | exact ⟨by decide, by decide, rfl, rfl⟩ | exact ⟨by omega, by omega, rfl, rfl⟩ | exact ⟨by (simp only [List.length_drop, List.length_take]; omega), rfl, rfl⟩ | exact ⟨_, rfl, rfl, rfl⟩ | exact ⟨by omega, _, by assumption, rfl, rfl, rfl⟩ | ((refine ACall.of_pure (by assumption) (by rfl) ?_); (refine And.intro ?_ ?_ <;> rfl))))); (conv => whnf)))))
  (conv => whnf); repeat' ((with_reducible refine Box.mk ?_) <;> conv => whnf)
  (refine And.intro ?_ ?_); (focus ((conv => whnf); (repeat' first | exact trivial | ((refine And.intro ?_ ?_); (focus ((conv => whnf); (first | exact ⟨rfl, rfl⟩ | exact ⟨by decide, by decide, rfl, rfl⟩ | exact ⟨by omega, by omega, rfl, rfl⟩ | exact ⟨by (simp only [List.length_drop, List.length_take]; omega), rfl, rfl⟩ | exact ⟨_, rfl, rfl, rfl⟩ | exact ⟨by omega, _, by assumption, rfl, rfl, rfl⟩ | ((refine ACall.of_pure (by assumption) (by rfl) ?_); (refine And.intro ?_ ?_ <;> rfl))))); (conv => whnf)))))
  (conv => whnf); repeat' ((with_reducible refine Box.mk ?_) <;> conv => whnf)
  rw [w4]
  refine aDw [1, 5] a4 rfl rfl rfl ?_
  (conv => whnf); repeat' ((with_reducible refine Box.mk ?_) <;> conv => whnf)
  refine aloop (fun i : Nat => i ≤ l.length) (fun i => ⟨envL [(9, .ptr 0 0), (44, .sl (bll l)), (45, .int .i64 ((bll l).length : Int)), (46, .int .i64 (i : Int))], wR (x4 ++ (l.take i).flatten)⟩) (fun i => l.length - i) 0 (Nat.zero_le _) (weak_ren_to [(1, true), (6, true)] rfl rfl (by show _ = wR (x4 ++ []); rw [List.append_nil]; rfl) ⟨rfl, rfl, rfl, rfl, trivial⟩) ?_
  rintro i hi
  have hle := flat_le l i
  have hxl : (x4 ++ (l.take i).flatten).length ≤ 70000 := by rw [List.length_append]; omega
  by_cases hlt : i < l.length
  ·have hx := List.getElem?_eq_getElem hlt
   have hft := flat_take hx
   generalize l[i] = b at *
   have hle2 := flat_le l (i + 1)
   have hfl : (l.take (i + 1)).flatten.length = (l.take i).flatten.length + b.length := by rw [hft, List.length_append]
   have a5 := wRawR (x4 ++ (l.take i).flatten) (by omega) b (by omega)
   rw [List.append_assoc, ← hft] at a5
   (conv => whnf); (repeat' ((with_reducible first | refine Box.mk ?_ | refine And.intro (fun _ => ?_) (fun _ => ?_) | fail) <;> conv => whnf))
   rotate_left
   ·exfalso; rename_i h; have h : ¬ (i : Int) < ((bll l).length : Int) := h; omega
   refine ⟨by omega, [.sl (bcl b)], bll_get hx, rfl, ?_⟩
   (conv => whnf); repeat' ((with_reducible refine Box.mk ?_) <;> conv => whnf)
   refine aW [0, 1] a5 rfl rfl rfl ?_
   (conv => whnf); repeat' ((with_reducible refine Box.mk ?_) <;> conv => whnf)
   exact ⟨i + 1, hlt, by omega, weak_ren_to [(0, true), (2, true)] rfl rfl rfl ⟨rfl, rfl, rfl, wrap_nat (m := 1) (by omega), trivial⟩⟩
  ·have : i = l.length := by omega
   subst this
   rw [List.take_length] at *
   have a6 := wBytesR (x4 ++ l.flatten) (by omega)
   (conv => whnf); (repeat' ((with_reducible first | refine Box.mk ?_ | refine And.intro (fun _ => ?_) (fun _ => ?_) | fail) <;> conv => whnf))
   ·exfalso; rename_i h; have h : ((l.length : Nat) : Int) < ((bll l).length : Int) := h; omega
   refine aW [0, 1] a6 rfl rfl rfl ?_
   (conv => whnf); repeat' ((with_reducible refine Box.mk ?_) <;> conv => whnf)
   exact weak_ren_to [] rfl rfl rfl ⟨rfl, trivial⟩
end Go.Proofs.YtnajpmepcffnaaaGreatDoor
end

section
/- ipfix: Templates of one, Data of one, Withdraw of one. -/
namespace Go.Proofs.YtnajpmepcffnaaaGreatDoor
open Go.Ve

def specsB (fs : List Sc) : Bs := (fs.map specB).flatten
theorem specsB_len : ∀ (fs : List Sc), (specsB fs).length ≤ 8 * fs.length
 | [] => Nat.le_refl _
 | s :: r => by
  have h1 := specsB_len r
  have h2 := specB_len s
  show (specB s ++ specsB r).length ≤ _
  rw [List.length_append, List.length_cons]; omega
theorem specsB_take {fs : List Sc} {i : Nat} {s : Sc} (h : fs[i]? = some s) : specsB (fs.take (i + 1)) = specsB (fs.take i) ++ specB s := by
 unfold specsB
 rw [List.take_add_one, h, List.map_append, List.flatten_append]
 show _ ++ (specB s ++ []) = _
 rw [List.append_nil]
def tmplB (i : Nat) (fs : List Sc) : Bs := numB i 2 ++ numB fs.length 2 ++ specsB fs
theorem tmplB_len (i : Nat) (fs : List Sc) : (tmplB i fs).length ≤ 4 + 8 * fs.length := by
 have := specsB_len fs
 unfold tmplB
 rw [List.length_append, List.length_append, numB_len, numB_len]; omega
theorem templates_nil : DCall P 27 [.nils] [] (.tup [.nils, .int .i64 1]) [] := by
 refine DCall.of_awp tok mixed fn27 (Nat.le_of_ble_eq_true rfl) ?_
 (conv => whnf); (repeat' ((with_reducible first | refine Box.mk ?_ | refine And.intro (fun _ => ?_) (fun _ => ?_) | fail) <;> conv => whnf))
 all_goals try contradiction
 exact weak_ren_to [] rfl rfl rfl ⟨rfl, trivial⟩
set_option maxHeartbeats 4000000 in
theorem templates_one (i : Nat) (fs : List Sc) (hr : rightT ⟨(i : Int), 0, fs⟩ = true) (hi : i < 65536) (he : ∀ s ∈ fs, EntOk s) : DCall P 27 [.sl [tcs ⟨(i : Int), 0, fs⟩]] [] (.tup [.sl (bcl (frameB 2 (tmplB i fs))), .int .i64 0]) [] := by
 obtain ⟨r1, r2, r3⟩ := right_all hr
 have r1 : 1 ≤ fs.length := r1
 have r2 : fs.length ≤ 64 := r2
 have q1 := cRight_ok ⟨(i : Int), 0, fs⟩ (by omega)
 rw [hr] at q1
 have hfl := scl_len fs
 have hsl := fun k => specsB_len (fs.take k)
 have htl := tmplB_len i fs
 have wid : IntKind.u64.wrap (i : Int) = i := wrap_u64 (by omega) (by omega)
 have wn : IntKind.u64.wrap (fs.length : Int) = fs.length := wrap_u64 (by omega) (by omega)
 have a1 := wNumN i 2
 rw [show szN 2 = 2 from rfl] at a1
 have l1 := numB_len i 2
 have a2 := wNumR (numB i 2) (by omega) fs.length 2
 rw [show szN 2 = 2 from rfl] at a2
 have l2 : (numB i 2 ++ numB fs.length 2).length = 4 := by rw [List.length_append, numB_len, numB_len]
 have a9 := wBytesR (tmplB i fs) (by omega)
 have af := framed_ok 2 (by decide) (tmplB i fs) (by omega)
 have htb : tmplB i fs = numB i 2 ++ numB fs.length 2 ++ specsB fs := rfl
 generalize tmplB i fs = tb at *
 generalize hpre : numB i 2 ++ numB fs.length 2 = pre at *
 generalize numB i 2 = x1 at *
 refine DCall.of_awp tok mixed fn27 (Nat.le_of_ble_eq_true rfl) ?_
 (conv => whnf); (repeat' ((with_reducible first | refine Box.mk ?_ | refine And.intro (fun _ => ?_) (fun _ => ?_) | fail) <;> conv => whnf))
 ·rename_i h; exact absurd (show (1 : Int) = 0 from h) (by decide)
 refine ⟨[], by kernel_rfl, ?_⟩
 (conv => whnf); repeat' ((with_reducible refine Box.mk ?_) <;> conv => whnf)
 refine ⟨by decide, tcs ⟨(i : Int), 0, fs⟩, rfl, rfl, ?_⟩
 (conv => whnf); (repeat' ((with_reducible first | refine Box.mk ?_ | refine And.intro (fun _ => ?_) (fun _ => ?_) | fail) <;> conv => whnf))
 ·rename_i h; exact absurd (show (0 : Int) < 0 from h) (by decide)
 refine aloop (fun k : Nat => k ≤ 1) (fun k => ⟨envL [(0, .sl [tcs ⟨(i : Int), 0, fs⟩]), (4, .ptr 0 0), (5, .bool true), (6, .bool false), (22, .sl [tcs ⟨(i : Int), 0, fs⟩]), (23, .int .i64 1), (24, .int .i64 (k : Int))], wN⟩) (fun k => 1 - k) 0 (Nat.zero_le _) (weak_ren_to [(0, true)] rfl rfl rfl ⟨rfl, rfl, rfl, rfl, rfl, rfl, rfl, trivial⟩) ?_
 intro k hk
 match k, hk with
 | 0, _ =>
  (conv => whnf); (repeat' ((with_reducible first | refine Box.mk ?_ | refine And.intro (fun _ => ?_) (fun _ => ?_) | fail) <;> conv => whnf))
  rotate_left
  ·rename_i h; exact absurd (show ¬ (0 : Int) < 1 from h) (by decide)
  refine ⟨by decide, tcs ⟨(i : Int), 0, fs⟩, rfl, rfl, ?_⟩
  (conv => whnf); (repeat' ((first | (with_reducible first | refine Box.mk ?_ | refine And.intro (fun _ => ?_) (fun _ => ?_) | fail) | ((with_reducible show ACall _ _ _ _ _); refine ACall.of_pure (by assumption) (by rfl) ?_) | fail) <;> conv => whnf))
  all_goals try (exfalso; rename_i h1 h2; first | exact absurd (show (0 : Int) < 0 from h1) (by decide) | exact h2 rfl | exact absurd h2 (by decide))
  exact ⟨1, Nat.le_refl _, by omega, weak_ren_to [(0, true)] rfl rfl rfl ⟨rfl, rfl, rfl, rfl, rfl, rfl, wrap_nat (n := 0) (m := 1) (by omega), trivial⟩⟩
 | 1, _ =>
  (conv => whnf); (repeat' ((with_reducible first | refine Box.mk ?_ | refine And.intro (fun _ => ?_) (fun _ => ?_) | fail) <;> conv => whnf))
  ·rename_i h; exact absurd (show (1 : Int) < 1 from h) (by decide)
  refine aloop (fun k : Nat => k ≤ 1) (fun k => ⟨envL [(4, .ptr 0 0), (6, .bool false), (9, .int .i64 2), (41, .sl [tcs ⟨(i : Int), 0, fs⟩]), (42, .int .i64 1), (43, .int .i64 (k : Int))], bif Nat.beq k 0 then wN else wR tb⟩) (fun k => 1 - k) 0 (Nat.zero_le _) (weak_ren_to [(0, true)] rfl rfl rfl ⟨rfl, rfl, rfl, rfl, rfl, rfl, trivial⟩) ?_
  intro k hk
  match k, hk with
  | 0, _ =>
   (conv => whnf); (repeat' ((with_reducible first | refine Box.mk ?_ | refine And.intro (fun _ => ?_) (fun _ => ?_) | fail) <;> conv => whnf))
   rotate_left
   ·rename_i h; exact absurd (show ¬ (0 : Int) < 1 from h) (by decide)
   refine ⟨by decide, tcs ⟨(i : Int), 0, fs⟩, rfl, rfl, ?_⟩
   (conv => whnf); repeat' ((with_reducible refine Box.mk ?_) <;> conv => whnf)
   refine ⟨[(2003, []), (2008, []), (3005, [3]), (3007, [3]), (3006, [3])], by kernel_rfl, ?_⟩
   (conv => whnf); repeat' ((with_reducible refine Box.mk ?_) <;> conv => whnf)
   rw [wid]
   refine aDw [0] a1 rfl rfl rfl ?_
   (conv => whnf); repeat' ((with_reducible refine Box.mk ?_) <;> conv => whnf)
   (refine And.intro ?_ ?_); (focus ((conv => whnf); (repeat' first | exact trivial | ((refine And.intro ?_ ?_); (focus ((conv => whnf); (first | exact ⟨rfl, rfl⟩ | exact ⟨by decide, by decide, rfl, rfl⟩ | exact ⟨by omega, by omega, rfl, rfl⟩ | exact ⟨by (simp only [List.length_drop, List.length_take]; omega), rfl, rfl⟩ | exact ⟨_, rfl, rfl, rfl⟩ | exact ⟨by omega, _, by assumption, rfl, rfl, rfl⟩ | ((refine ACall.of_pure (by assumption) (by rfl) ?_); (refine And.intro ?_ ?_ <;> rfl))))); (conv => whnf)))))
   (conv => whnf); repeat' ((with_reducible refine Box.mk ?_) <;> conv => whnf)
   (refine And.intro ?_ ?_); (focus ((conv => whnf); (repeat' first | exact trivial | ((refine And.intro ?_ ?_); (focus ((conv => whnf); (first | exact ⟨rfl, rfl⟩ | exact ⟨by decide, by decide, rfl, rfl⟩ | exact ⟨by omega, by omega, rfl, rfl⟩ | exact ⟨by (simp only [List.length_drop, List.length_take]; omega), rfl, rfl⟩ | exact ⟨_, rfl, rfl, rfl⟩ | exact ⟨by omega, _, by assumption, rfl, rfl, rfl⟩ | ((refine ACall.of_pure (by assumption) (by rfl) ?_); (refine And.intro ?_ ?_ <;> rfl))))); (conv => whnf)))))
   (conv => whnf); repeat' ((with_reducible refine Box.mk ?_) <;> conv => whnf)
   (refine And.intro ?_ ?_); (focus ((conv => whnf); (repeat' first | exact trivial | ((refine And.intro ?_ ?_); (focus ((conv => whnf); (first | exact ⟨rfl, rfl⟩ | exact ⟨by decide, by decide, rfl, rfl⟩ | exact ⟨by omega, by omega, rfl, rfl⟩ | exact ⟨by (simp only [List.length_drop, List.length_take]; omega), rfl, rfl⟩ | exact ⟨_, rfl, rfl, rfl⟩ | exact ⟨by omega, _, by assumption, rfl, rfl, rfl⟩ | ((refine ACall.of_pure (by assumption) (by rfl) ?_); (refine And.intro ?_ ?_ <;> rfl))))); (conv => whnf)))))
   (conv => whnf); repeat' ((with_reducible refine Box.mk ?_) <;> conv => whnf)
   rw [hfl, wn]
   refine aDw [0, 2] a2 rfl rfl rfl ?_
   (conv => whnf); repeat' ((with_reducible refine Box.mk ?_) <;> conv => whnf)
   refine aloop (fun j : Nat => j ≤ fs.length) (fun j => ⟨envL [(4, .ptr 0 0), (6, .bool false), (9, .int .i64 2), (41, .sl [tcs ⟨(i : Int), 0, fs⟩]), (42, .int .i64 1), (43, .int .i64 0), (62, .sl (scl fs)), (63, .int .i64 ((scl fs).length : Int)), (64, .int .i64 (j : Int))], wR (pre ++ specsB (fs.take j))⟩) (fun j => fs.length - j) 0 (Nat.zero_le _)
    (weak_ren_to [(0, true), (3, true)] rfl rfl (by show _ = wR (pre ++ []); rw [List.append_nil]; rfl) ⟨rfl, rfl, rfl, rfl, rfl, rfl, rfl, rfl, rfl, trivial⟩) ?_
   intro j hj
   by_cases hlt : j < fs.length
   ·have hx := List.getElem?_eq_getElem hlt
    have hst := specsB_take hx
    have hes := he _ (List.mem_of_getElem? hx)
    generalize fs[j] = s at *
    have hsj := hsl j
    have a5 := fWriteR (pre ++ specsB (fs.take j)) (by rw [List.length_append]; rw [List.length_take] at hsj; omega) s hes
    rw [List.append_assoc, ← hst] at a5
    (conv => whnf); (repeat' ((with_reducible first | refine Box.mk ?_ | refine And.intro (fun _ => ?_) (fun _ => ?_) | fail) <;> conv => whnf))
    rotate_left
    ·exfalso; rename_i h; have h : ¬ (j : Int) < ((scl fs).length : Int) := h; omega
    refine ⟨by omega, scc s, scl_get hx, rfl, ?_⟩
    (conv => whnf); repeat' ((with_reducible refine Box.mk ?_) <;> conv => whnf)
    refine aW [0, 1] a5 rfl rfl rfl ?_
    (conv => whnf); repeat' ((with_reducible refine Box.mk ?_) <;> conv => whnf)
    exact ⟨j + 1, hlt, by omega, weak_ren_to [(0, true), (3, true)] rfl rfl rfl ⟨rfl, rfl, rfl, rfl, rfl, rfl, rfl, rfl, wrap_nat (m := 1) (by omega), trivial⟩⟩
   ·have : j = fs.length := by omega
    subst this
    rw [List.take_length, ← htb]
    (conv => whnf); (repeat' ((with_reducible first | refine Box.mk ?_ | refine And.intro (fun _ => ?_) (fun _ => ?_) | fail) <;> conv => whnf))
    ·exfalso; rename_i h; have h : ((fs.length : Nat) : Int) < ((scl fs).length : Int) := h; omega
    exact ⟨1, Nat.le_refl _, by omega, weak_ren_to [(0, true), (1, true)] rfl rfl rfl ⟨rfl, rfl, rfl, rfl, rfl, wrap_nat (n := 0) (m := 1) (by omega), trivial⟩⟩
  | 1, _ =>
   (conv => whnf); (repeat' ((with_reducible first | refine Box.mk ?_ | refine And.intro (fun _ => ?_) (fun _ => ?_) | fail) <;> conv => whnf))
   ·rename_i h; exact absurd (show (1 : Int) < 1 from h) (by decide)
   refine aW [0, 1] a9 rfl rfl rfl ?_
   (conv => whnf); repeat' ((with_reducible refine Box.mk ?_) <;> conv => whnf)
   refine aW [] af rfl rfl rfl ?_
   (conv => whnf); repeat' ((with_reducible refine Box.mk ?_) <;> conv => whnf)
   exact weak_ren_to [] rfl rfl rfl ⟨rfl, trivial⟩
end Go.Proofs.YtnajpmepcffnaaaGreatDoor
end

section
/- ipfix: Data of one, Withdraw of one. -/
namespace Go.Proofs.YtnajpmepcffnaaaGreatDoor
open Go.Ve

def putsB (fs : List Sc) (r : Rc) : Bs := (fs.map fun s => putB s (ofR r s)).flatten
theorem putsB_take {fs : List Sc} {r : Rc} {i : Nat} {s : Sc} (h : fs[i]? = some s) : putsB (fs.take (i + 1)) r = putsB (fs.take i) r ++ putB s (ofR r s) := by
 unfold putsB
 rw [List.take_add_one, h, List.map_append, List.flatten_append]
 show _ ++ (putB s (ofR r s) ++ []) = _
 rw [List.append_nil]
theorem putsB_len (r : Rc) : ∀ (fs : List Sc), (putsB fs r).length ≤ 65540 * fs.length
 | [] => Nat.le_refl _
 | s :: l => by
  have h1 := putsB_len r l
  have h2 := putB_len s (ofR r s)
  show (putB s (ofR r s) ++ putsB l r).length ≤ _
  rw [List.length_append, List.length_cons]; omega
set_option maxHeartbeats 4000000 in
theorem data_one (i : Nat) (fs : List Sc) (r : Rc) (hr : rightT ⟨(i : Int), 0, fs⟩ = true) (hi : i < 65536) (h0 : r.p0.path.length < 4294967281) (h1 : r.p1.path.length < 4294967281) (hv : ∀ s ∈ fs, (ofR r s).length ≤ 1000000000) (htot : (putsB fs r).length ≤ 65531) :
  DCall P 28 [tv ⟨(i : Int), 0, fs⟩, .sl [rcc r]] [] (.tup [.sl (bcl (frameB i (putsB fs r))), .int .i64 0]) [] := by
 obtain ⟨r1, r2, r3⟩ := right_all hr
 have r1 : 1 ≤ fs.length := r1
 have r2 : fs.length ≤ 64 := r2
 have q1 := cRight_ok ⟨(i : Int), 0, fs⟩ (by omega)
 rw [hr] at q1
 have hfl := scl_len fs
 have hsl := fun k => putsB_len r (fs.take k)
 have a9 := wBytesR (putsB fs r) (by omega)
 have af := framed_ok i hi (putsB fs r) htot
 refine DCall.of_awp tok mixed fn28 (Nat.le_of_ble_eq_true rfl) ?_
 (conv => whnf); (repeat' ((first | (with_reducible refine Box.mk ?_) | ((with_reducible show ACall _ _ _ _ _); refine ACall.of_pure (by assumption) (by rfl) ?_) | fail) <;> conv => whnf))
 all_goals try (exfalso; rename_i h2; first | exact h2 rfl | exact absurd h2 (by decide))
 refine aloop (fun k : Nat => k ≤ 1) (fun k => ⟨envL [(2, .ptr 0 0), (6, .ptr 1 0), (14, .sl [rcc r]), (15, .int .i64 1), (16, .int .i64 (k : Int))], Ob.box 58 (tcs ⟨(i : Int), 0, fs⟩) :: (bif Nat.beq k 0 then [.box 89 [.nils]] else [.box 89 [.own 2], .row 5 1 (bcl (putsB fs r))])⟩) (fun k => 1 - k) 0 (Nat.zero_le _) (weak_ren_to [(0, true), (1, true)] rfl rfl rfl ⟨rfl, rfl, rfl, rfl, rfl, trivial⟩) ?_
 intro k hk
 match k, hk with
 | 0, _ =>
  (conv => whnf); (repeat' ((with_reducible first | refine Box.mk ?_ | refine And.intro (fun _ => ?_) (fun _ => ?_) | fail) <;> conv => whnf))
  rotate_left
  ·rename_i h; exact absurd (show ¬ (0 : Int) < 1 from h) (by decide)
  refine ⟨by decide, rcc r, rfl, rfl, ?_⟩
  (conv => whnf); repeat' ((with_reducible refine Box.mk ?_) <;> conv => whnf)
  refine aloop (fun j : Nat => j ≤ fs.length) (fun j => ⟨envL [(2, .ptr 0 0), (6, .ptr 1 0), (8, .ptr 2 0), (14, .sl [rcc r]), (15, .int .i64 1), (16, .int .i64 0), (21, .sl (scl fs)), (22, .int .i64 ((scl fs).length : Int)), (23, .int .i64 (j : Int))], [Ob.box 58 (tcs ⟨(i : Int), 0, fs⟩), .box 89 [.own 3], .box 55 (rcc r), .row 5 1 (bcl (putsB (fs.take j) r))]⟩) (fun j => fs.length - j) 0 (Nat.zero_le _)
   (by exact weak_nilrow (H' := [Ob.box 58 (tcs ⟨(i : Int), 0, fs⟩), .box 89 [.own 3], .box 55 (rcc r)]) 5 1 (by decide) ⟨.inl rfl, .inl rfl, .inl rfl, .inl rfl, .inl rfl, .inl rfl, .inl rfl, .inl rfl, .inl rfl, trivial⟩ ⟨.inl rfl, .inr ⟨rfl, .inr ⟨rfl, rfl⟩, trivial⟩, .inl rfl, trivial⟩) ?_
  intro j hj
  by_cases hlt : j < fs.length
  ·have hx := List.getElem?_eq_getElem hlt
   have hst := putsB_take (r := r) hx
   have hvs := hv _ (List.mem_of_getElem? hx)
   generalize fs[j] = s at *
   have hsj := hsl j
   have q4 := fOf_ok r s h0 h1
   have a5 := fPutR (putsB (fs.take j) r) (by rw [List.length_take] at hsj; omega) s (ofR r s) hvs
   rw [← hst] at a5
   generalize ofR r s = v at *
   (conv => whnf); (repeat' ((with_reducible first | refine Box.mk ?_ | refine And.intro (fun _ => ?_) (fun _ => ?_) | fail) <;> conv => whnf))
   rotate_left
   ·exfalso; rename_i h; have h : ¬ (j : Int) < ((scl fs).length : Int) := h; omega
   refine ⟨by omega, scc s, scl_get hx, rfl, ?_⟩
   (conv => whnf); repeat' ((with_reducible refine Box.mk ?_) <;> conv => whnf)
   refine ⟨[(2004, [])], by kernel_rfl, ?_⟩
   (conv => whnf); repeat' ((with_reducible refine Box.mk ?_) <;> conv => whnf)
   refine aDr [] q4 rfl rfl rfl rfl ?_
   (conv => whnf); repeat' ((with_reducible refine Box.mk ?_) <;> conv => whnf)
   refine aDw [1, 3] a5 rfl rfl rfl ?_
   (conv => whnf); repeat' ((with_reducible refine Box.mk ?_) <;> conv => whnf)
   exact ⟨j + 1, hlt, by omega, weak_ren_to [(0, true), (1, true), (2, true), (5, true)] rfl rfl rfl ⟨rfl, rfl, rfl, rfl, rfl, rfl, rfl, rfl, wrap_nat (m := 1) (by omega), trivial⟩⟩
  ·have : j = fs.length := by omega
   subst this
   rw [List.take_length]
   (conv => whnf); (repeat' ((with_reducible first | refine Box.mk ?_ | refine And.intro (fun _ => ?_) (fun _ => ?_) | fail) <;> conv => whnf))
   ·exfalso; rename_i h; have h : ((fs.length : Nat) : Int) < ((scl fs).length : Int) := h; omega
   exact ⟨1, Nat.le_refl _, by omega, weak_ren_to [(0, true), (1, true), (3, true)] rfl rfl rfl ⟨rfl, rfl, rfl, rfl, wrap_nat (n := 0) (m := 1) (by omega), trivial⟩⟩
 | 1, _ =>
  (conv => whnf); (repeat' ((with_reducible first | refine Box.mk ?_ | refine And.intro (fun _ => ?_) (fun _ => ?_) | fail) <;> conv => whnf))
  ·rename_i h; exact absurd (show (1 : Int) < 1 from h) (by decide)
  refine ⟨[], by kernel_rfl, ?_⟩
  (conv => whnf); repeat' ((with_reducible refine Box.mk ?_) <;> conv => whnf)
  refine aDr [1, 2] a9 rfl rfl rfl rfl ?_
  (conv => whnf); repeat' ((with_reducible refine Box.mk ?_) <;> conv => whnf)
  refine aDr [] af rfl rfl rfl rfl ?_
  (conv => whnf); repeat' ((with_reducible refine Box.mk ?_) <;> conv => whnf)
  exact weak_ren_to [] rfl rfl rfl ⟨rfl, trivial⟩
set_option maxHeartbeats 4000000 in
theorem withdraw_one : DCall P 29 [.bool false, .sl [[.int .i64 2]]] [] (.tup [.sl (bcl (frameB 2 (numB 2 2 ++ numB 0 2))), .int .i64 0]) [] := by
 have a1 := wNumN 2 2
 rw [show szN 2 = 2 from rfl] at a1
 have l1 := numB_len 2 2
 have a2 := wNumR (numB 2 2) (by omega) 0 2
 rw [show szN 2 = 2 from rfl] at a2
 have l2 : (numB 2 2 ++ numB 0 2).length = 4 := by rw [List.length_append, numB_len, numB_len]
 have a9 := wBytesR (numB 2 2 ++ numB 0 2) (by omega)
 have af := framed_ok 2 (by decide) (numB 2 2 ++ numB 0 2) (by omega)
 generalize numB 2 2 ++ numB 0 2 = tb at *
 generalize numB 2 2 = x at *
 refine DCall.of_awp tok mixed fn29 (Nat.le_of_ble_eq_true rfl) ?_
 (conv => whnf); repeat' ((with_reducible refine Box.mk ?_) <;> conv => whnf)
 refine aloop (fun k : Nat => k ≤ 1) (fun k => ⟨envL [(6, .ptr 0 0), (7, .int .i64 2), (11, .sl [[.int .i64 2]]), (12, .int .i64 1), (13, .int .i64 (k : Int))], bif Nat.beq k 0 then wN else wR tb⟩) (fun k => 1 - k) 0 (Nat.zero_le _) (weak_ren_to [(0, true)] rfl rfl rfl ⟨rfl, rfl, rfl, rfl, rfl, trivial⟩) ?_
 intro k hk
 match k, hk with
 | 0, _ =>
  (conv => whnf); (repeat' ((with_reducible first | refine Box.mk ?_ | refine And.intro (fun _ => ?_) (fun _ => ?_) | fail) <;> conv => whnf))
  rotate_left
  ·rename_i h; exact absurd (show ¬ (0 : Int) < 1 from h) (by decide)
  refine ⟨by decide, [.int .i64 2], rfl, rfl, ?_⟩
  (conv => whnf); (repeat' ((with_reducible first | refine Box.mk ?_ | refine And.intro (fun _ => ?_) (fun _ => ?_) | fail) <;> conv => whnf))
  rotate_left
  all_goals try exact absurd rfl (by assumption)
  refine aW [0] a1 rfl rfl rfl ?_
  (conv => whnf); repeat' ((with_reducible refine Box.mk ?_) <;> conv => whnf)
  refine aW [0, 1] a2 rfl rfl rfl ?_
  (conv => whnf); repeat' ((with_reducible refine Box.mk ?_) <;> conv => whnf)
  exact ⟨1, Nat.le_refl _, by omega, weak_ren_to [(0, true), (2, true)] rfl rfl rfl ⟨rfl, rfl, rfl, rfl, wrap_nat (n := 0) (m := 1) (by omega), trivial⟩⟩
 | 1, _ =>
  (conv => whnf); (repeat' ((with_reducible first | refine Box.mk ?_ | refine And.intro (fun _ => ?_) (fun _ => ?_) | fail) <;> conv => whnf))
  ·rename_i h; exact absurd (show (1 : Int) < 1 from h) (by decide)
  refine aW [0, 1] a9 rfl rfl rfl ?_
  (conv => whnf); repeat' ((with_reducible refine Box.mk ?_) <;> conv => whnf)
  refine aW [] af rfl rfl rfl ?_
  (conv => whnf); repeat' ((with_reducible refine Box.mk ?_) <;> conv => whnf)
  exact weak_ren_to [] rfl rfl rfl ⟨rfl, trivial⟩
end Go.Proofs.YtnajpmepcffnaaaGreatDoor
end

section
/- ref16: Same, SameAll, and the laws' Same and SameRecords, of what is the same. -/
namespace Go.Proofs.YtnajpmepcffnaaaGreatDoor
open Go.Ve

theorem hdl_get2 {G : List Hd} {i : Nat} {h : Hd} (hx : G[i]? = some h) : (hdl G)[(i : Int).toNat]? = some (hdc h) := by
 rw [Int.toNat_natCast, hdl_get, hx]; rfl
theorem same_refl (t : Tm) (hl : t.fields.length ≤ 1000000000) : PCall P 19 [tv t, tv t] (.bool true) := by
 have hfl := scl_len t.fields
 refine PCall.of_awp tok mixed fn19 (Nat.le_of_ble_eq_true rfl) ?_
 (conv => whnf); (repeat' ((with_reducible first | refine Box.mk ?_ | refine And.intro (fun _ => ?_) (fun _ => ?_) | fail) <;> conv => whnf))
 all_goals try (exact absurd rfl (by assumption))
 refine aloopH (fun i : Nat => i ≤ t.fields.length) (fun i => [(2, .ptr 0 0), (3, .ptr 1 0), (5, .int .i64 (i : Int))]) (fun _ H => H) (fun i => t.fields.length - i) 0 (Nat.zero_le _) (weak_to ⟨rfl, rfl, rfl, trivial⟩ rfl) ?_
 intro i hi
 by_cases hlt : i < t.fields.length
 ·have hx := List.getElem?_eq_getElem hlt
  generalize t.fields[i] = s at *
  have hg := scl_get hx
  (conv => whnf); (repeat' ((with_reducible first | refine Box.mk ?_ | refine And.intro (fun _ => ?_) (fun _ => ?_) | fail) <;> conv => whnf))
  rotate_left
  ·exfalso; rename_i h; have h : ¬ (i : Int) < ((scl t.fields).length : Int) := h; omega
  refine ⟨[], by kernel_rfl, ?_⟩
  (conv => whnf); repeat' ((with_reducible refine Box.mk ?_) <;> conv => whnf)
  refine ⟨by omega, scc s, hg, rfl, ?_⟩
  (conv => whnf); repeat' ((with_reducible refine Box.mk ?_) <;> conv => whnf)
  refine ⟨by omega, scc s, hg, rfl, ?_⟩
  (conv => whnf); (repeat' ((with_reducible first | refine Box.mk ?_ | refine And.intro (fun _ => ?_) (fun _ => ?_) | fail) <;> conv => whnf))
  rotate_left
  ·rename_i h; exact absurd ⟨rfl, rfl, rfl⟩ h
  exact ⟨i + 1, hlt, by omega, weak_to ⟨rfl, rfl, wrap_nat (m := 1) (by omega), trivial⟩ rfl⟩
 ·have : i = t.fields.length := by omega
  subst this
  (conv => whnf); (repeat' ((with_reducible first | refine Box.mk ?_ | refine And.intro (fun _ => ?_) (fun _ => ?_) | fail) <;> conv => whnf))
  ·exfalso; rename_i h; have h : ((t.fields.length : Nat) : Int) < ((scl t.fields).length : Int) := h; omega
  rfl
theorem sameAll_refl (G : List Hd) (hG : ∀ h ∈ G, rightT h.t = true) (hl : G.length ≤ 1000000000) : PCall P 16 [.sl (hdl G), .sl (hdl G)] (.bool true) := by
 have hgl := hdl_len G
 refine PCall.of_awp tok mixed fn16 (Nat.le_of_ble_eq_true rfl) ?_
 (conv => whnf); (repeat' ((with_reducible first | refine Box.mk ?_ | refine And.intro (fun _ => ?_) (fun _ => ?_) | fail) <;> conv => whnf))
 all_goals try (exact absurd rfl (by assumption))
 refine aloopH (fun i : Nat => i ≤ G.length) (fun i => [(0, .sl (hdl G)), (1, .sl (hdl G)), (5, .int .i64 (i : Int))]) (fun _ H => H) (fun i => G.length - i) 0 (Nat.zero_le _) (weak_to ⟨rfl, rfl, rfl, trivial⟩ rfl) ?_
 intro i hi
 by_cases hlt : i < G.length
 ·have hx := List.getElem?_eq_getElem hlt
  have hr := hG _ (List.mem_of_getElem? hx)
  generalize G[i] = h at *
  have hg := hdl_get2 hx
  have q1 := same_refl h.t (by have := rightT_len hr; omega)
  (conv => whnf); (repeat' ((with_reducible first | refine Box.mk ?_ | refine And.intro (fun _ => ?_) (fun _ => ?_) | fail) <;> conv => whnf))
  rotate_left
  ·exfalso; rename_i h; have h : ¬ (i : Int) < ((hdl G).length : Int) := h; omega
  refine ⟨[], by kernel_rfl, ?_⟩
  (conv => whnf); repeat' ((with_reducible refine Box.mk ?_) <;> conv => whnf)
  refine ⟨by omega, hdc h, hg, rfl, ?_⟩
  (conv => whnf); repeat' ((with_reducible refine Box.mk ?_) <;> conv => whnf)
  refine ⟨by omega, hdc h, hg, rfl, ?_⟩
  (conv => whnf); (repeat' ((with_reducible first | refine Box.mk ?_ | refine And.intro (fun _ => ?_) (fun _ => ?_) | fail) <;> conv => whnf))
  all_goals try (exact absurd rfl (by assumption))
  refine ⟨by omega, hdc h, hg, rfl, ?_⟩
  (conv => whnf); repeat' ((with_reducible refine Box.mk ?_) <;> conv => whnf)
  refine ⟨by omega, hdc h, hg, rfl, ?_⟩
  (conv => whnf); (repeat' ((first | (with_reducible refine Box.mk ?_) | ((with_reducible show Exists _); refine ⟨_, ACall.of_pure (by assumption) (by rfl) ⟨rfl, rfl⟩, ?_⟩) | fail) <;> conv => whnf))
  exact ⟨i + 1, hlt, by omega, weak_to ⟨rfl, rfl, wrap_nat (m := 1) (by omega), trivial⟩ rfl⟩
 ·have : i = G.length := by omega
  subst this
  (conv => whnf); (repeat' ((with_reducible first | refine Box.mk ?_ | refine And.intro (fun _ => ?_) (fun _ => ?_) | fail) <;> conv => whnf))
  ·exfalso; rename_i h; have h : ((G.length : Nat) : Int) < ((hdl G).length : Int) := h; omega
  rfl
theorem sameRecs_refl (l : List Rc) (hl : l.length ≤ 2000000000) : PCall P 10 [.sl (rcl l), .sl (rcl l)] (.bool true) := by
 have hgl := rcl_len l
 refine PCall.of_awp tok mixed fn10 (Nat.le_of_ble_eq_true rfl) ?_
 (conv => whnf); (repeat' ((with_reducible first | refine Box.mk ?_ | refine And.intro (fun _ => ?_) (fun _ => ?_) | fail) <;> conv => whnf))
 all_goals try (exact absurd rfl (by assumption))
 refine aloopH (fun i : Nat => i ≤ l.length) (fun i => [(0, .sl (rcl l)), (1, .sl (rcl l)), (5, .int .i64 (i : Int))]) (fun _ H => H) (fun i => l.length - i) 0 (Nat.zero_le _) (weak_to ⟨rfl, rfl, rfl, trivial⟩ rfl) ?_
 intro i hi
 by_cases hlt : i < l.length
 ·have hx := List.getElem?_eq_getElem hlt
  generalize l[i] = r at *
  have hg : (rcl l)[(i : Int).toNat]? = some (rcc r) := by rw [Int.toNat_natCast, rcl, List.getElem?_map, hx]; rfl
  (conv => whnf); (repeat' ((with_reducible first | refine Box.mk ?_ | refine And.intro (fun _ => ?_) (fun _ => ?_) | fail) <;> conv => whnf))
  rotate_left
  ·exfalso; rename_i h; have h : ¬ (i : Int) < ((rcl l).length : Int) := h; omega
  refine ⟨[], by kernel_rfl, ?_⟩
  (conv => whnf); repeat' ((with_reducible refine Box.mk ?_) <;> conv => whnf)
  refine ⟨by omega, rcc r, hg, rfl, ?_⟩
  (conv => whnf); repeat' ((with_reducible refine Box.mk ?_) <;> conv => whnf)
  refine ⟨by omega, rcc r, hg, rfl, ?_⟩
  (conv => whnf); (repeat' ((with_reducible first | refine Box.mk ?_ | refine And.intro (fun _ => ?_) (fun _ => ?_) | fail) <;> conv => whnf))
  rotate_left
  ·rename_i h; exact absurd (by simp) h
  exact ⟨i + 1, hlt, by omega, weak_to ⟨rfl, rfl, wrap_nat (m := 1) (by omega), trivial⟩ rfl⟩
 ·have : i = l.length := by omega
  subst this
  (conv => whnf); (repeat' ((with_reducible first | refine Box.mk ?_ | refine And.intro (fun _ => ?_) (fun _ => ?_) | fail) <;> conv => whnf))
  ·exfalso; rename_i h; have h : ((l.length : Nat) : Int) < ((rcl l).length : Int) := h; omega
  rfl
theorem tmplsSame_ok (c : Cs) (hc : CI c) : DCall P 11 [.ptr 0 0, .sl (hdl (listE c.es))] (cH c) (.bool true) (cH c) := by
 have q1 := list_ok c hc
 obtain ⟨ho, hr, hd, hl⟩ := hc.list
 have q2 := sameAll_refl (listE c.es) hr (by omega)
 have q3 := fun (h : Hd) (hx : h ∈ listE c.es) => find_ok c hc h.dom h.t.id
 have hf : ∀ h ∈ listE c.es, findE c.es (h.dom, h.t.id) = some h := fun h hx => by
  obtain ⟨e, he, rfl⟩ := ((listE_rel hc.nodup).2 h).1 hx
  exact findE_in hc.nodup he
 generalize listE c.es = G at *
 have hgl := hdl_len G
 obtain ⟨nl, es, clk⟩ := c
 clear ho hd
 cases nl
 ·have q3 : ∀ h ∈ G, DCall P 18 [.ptr 0 0, .int .u32 (h.dom : Int), .int .i64 h.t.id] (CHp es clk) (.tup [tv h.t, .bool true]) (CHp es clk) := fun h hx => by
   have := q3 h hx
   rw [show findE es (h.dom, h.t.id) = some h from hf h hx] at this
   exact this
  have q1 : DCall P _ _ (CHp es clk) _ _ := q1
  show DCall P _ _ (CHp es clk) _ (CHp es clk)
  refine DCall.of_awp tok mixed fn11 (Nat.le_of_ble_eq_true rfl) ?_
  (conv => whnf); (repeat' ((with_reducible first | refine Box.mk ?_ | refine And.intro (fun _ => ?_) (fun _ => ?_) | fail) <;> conv => whnf))
  all_goals try contradiction
  refine aW [0, 1] q1 rfl rfl rfl ?_
  (conv => whnf); (repeat' ((first | (with_reducible refine Box.mk ?_) | ((with_reducible show ACall _ _ _ _ _); refine ACall.of_pure (by assumption) (by rfl) ?_) | fail) <;> conv => whnf))
  refine aloop (fun i : Nat => i ≤ G.length) (fun i => ⟨envL [(0, .ptr 0 0), (1, .sl (hdl G)), (5, .int .i64 (i : Int))], CHp es clk⟩) (fun i => G.length - i) 0 (Nat.zero_le _) (weak_ren_to [(0, true), (1, true)] rfl rfl rfl ⟨rfl, rfl, rfl, trivial⟩) ?_
  intro i hi
  by_cases hlt : i < G.length
  ·have hx := List.getElem?_eq_getElem hlt
   have hr := hr _ (List.mem_of_getElem? hx)
   have q3 := q3 _ (List.mem_of_getElem? hx)
   generalize G[i] = h at *
   have hg := hdl_get2 hx
   have q4 := same_refl h.t (by have := rightT_len hr; omega)
   (conv => whnf); (repeat' ((with_reducible first | refine Box.mk ?_ | refine And.intro (fun _ => ?_) (fun _ => ?_) | fail) <;> conv => whnf))
   rotate_left
   ·exfalso; rename_i h; have h : ¬ (i : Int) < ((hdl G).length : Int) := h; omega
   refine ⟨[(16, [3, 5, 8, 11, 12])], by kernel_rfl, ?_⟩
   (conv => whnf); repeat' ((with_reducible refine Box.mk ?_) <;> conv => whnf)
   refine ⟨by omega, hdc h, hg, rfl, ?_⟩
   (conv => whnf); repeat' ((with_reducible refine Box.mk ?_) <;> conv => whnf)
   refine ⟨by omega, hdc h, hg, rfl, ?_⟩
   (conv => whnf); repeat' ((with_reducible refine Box.mk ?_) <;> conv => whnf)
   refine aDr [0, 1] q3 rfl rfl rfl rfl ?_
   (conv => whnf); repeat' ((with_reducible refine Box.mk ?_) <;> conv => whnf)
   refine ⟨⟨⟨by omega, _, hg, rfl, rfl, rfl⟩, ⟨rfl, rfl⟩, ⟨by omega, _, hg, rfl, rfl, rfl⟩, ⟨rfl, rfl⟩, aW [0, 1] q3 rfl rfl rfl ⟨rfl, rfl⟩, trivial⟩, ?_⟩
   (conv => whnf); repeat' ((with_reducible refine Box.mk ?_) <;> conv => whnf)
   refine ⟨[], by kernel_rfl, ?_⟩
   (conv => whnf); repeat' ((with_reducible refine Box.mk ?_) <;> conv => whnf)
   refine ⟨by omega, hdc h, hg, rfl, ?_⟩
   (conv => whnf); (repeat' ((first | (with_reducible refine Box.mk ?_) | ((with_reducible show Exists _); refine ⟨_, ACall.of_pure (by assumption) (by rfl) ⟨rfl, rfl⟩, ?_⟩) | fail) <;> conv => whnf))
   exact ⟨i + 1, hlt, by omega, weak_ren_to [(0, true), (1, true)] rfl rfl rfl ⟨rfl, rfl, wrap_nat (m := 1) (by omega), trivial⟩⟩
  ·have : i = G.length := by omega
   subst this
   (conv => whnf); (repeat' ((with_reducible first | refine Box.mk ?_ | refine And.intro (fun _ => ?_) (fun _ => ?_) | fail) <;> conv => whnf))
   ·exfalso; rename_i h; have h : ((G.length : Nat) : Int) < ((hdl G).length : Int) := h; omega
   exact weak_to ⟨rfl, trivial⟩ rfl
 ·have q3 : ∀ h ∈ G, DCall P 18 [.ptr 0 0, .int .u32 (h.dom : Int), .int .i64 h.t.id] [.box 67 [.nilm]] (.tup [tv h.t, .bool true]) [.box 67 [.nilm]] := fun h hx => by
   have := q3 h hx
   rw [show findE es (h.dom, h.t.id) = some h from hf h hx] at this
   exact this
  have q1 : DCall P _ _ [.box 67 [.nilm]] _ _ := q1
  show DCall P _ _ [.box 67 [.nilm]] _ [.box 67 [.nilm]]
  refine DCall.of_awp tok mixed fn11 (Nat.le_of_ble_eq_true rfl) ?_
  (conv => whnf); (repeat' ((with_reducible first | refine Box.mk ?_ | refine And.intro (fun _ => ?_) (fun _ => ?_) | fail) <;> conv => whnf))
  all_goals try contradiction
  refine aW [0] q1 rfl rfl rfl ?_
  (conv => whnf); (repeat' ((first | (with_reducible refine Box.mk ?_) | ((with_reducible show ACall _ _ _ _ _); refine ACall.of_pure (by assumption) (by rfl) ?_) | fail) <;> conv => whnf))
  refine aloop (fun i : Nat => i ≤ G.length) (fun i => ⟨envL [(0, .ptr 0 0), (1, .sl (hdl G)), (5, .int .i64 (i : Int))], [.box 67 [.nilm]]⟩) (fun i => G.length - i) 0 (Nat.zero_le _) (weak_ren_to [(0, true)] rfl rfl rfl ⟨rfl, rfl, rfl, trivial⟩) ?_
  intro i hi
  by_cases hlt : i < G.length
  ·have hx := List.getElem?_eq_getElem hlt
   have hr := hr _ (List.mem_of_getElem? hx)
   have q3 := q3 _ (List.mem_of_getElem? hx)
   generalize G[i] = h at *
   have hg := hdl_get2 hx
   have q4 := same_refl h.t (by have := rightT_len hr; omega)
   (conv => whnf); (repeat' ((with_reducible first | refine Box.mk ?_ | refine And.intro (fun _ => ?_) (fun _ => ?_) | fail) <;> conv => whnf))
   rotate_left
   ·exfalso; rename_i h; have h : ¬ (i : Int) < ((hdl G).length : Int) := h; omega
   refine ⟨[(16, [3, 5, 8, 11, 12])], by kernel_rfl, ?_⟩
   (conv => whnf); repeat' ((with_reducible refine Box.mk ?_) <;> conv => whnf)
   refine ⟨by omega, hdc h, hg, rfl, ?_⟩
   (conv => whnf); repeat' ((with_reducible refine Box.mk ?_) <;> conv => whnf)
   refine ⟨by omega, hdc h, hg, rfl, ?_⟩
   (conv => whnf); repeat' ((with_reducible refine Box.mk ?_) <;> conv => whnf)
   refine aDr [0] q3 rfl rfl rfl rfl ?_
   (conv => whnf); repeat' ((with_reducible refine Box.mk ?_) <;> conv => whnf)
   refine ⟨⟨⟨by omega, _, hg, rfl, rfl, rfl⟩, ⟨rfl, rfl⟩, ⟨by omega, _, hg, rfl, rfl, rfl⟩, ⟨rfl, rfl⟩, aW [0] q3 rfl rfl rfl ⟨rfl, rfl⟩, trivial⟩, ?_⟩
   (conv => whnf); repeat' ((with_reducible refine Box.mk ?_) <;> conv => whnf)
   refine ⟨[], by kernel_rfl, ?_⟩
   (conv => whnf); repeat' ((with_reducible refine Box.mk ?_) <;> conv => whnf)
   refine ⟨by omega, hdc h, hg, rfl, ?_⟩
   (conv => whnf); (repeat' ((first | (with_reducible refine Box.mk ?_) | ((with_reducible show Exists _); refine ⟨_, ACall.of_pure (by assumption) (by rfl) ⟨rfl, rfl⟩, ?_⟩) | fail) <;> conv => whnf))
   exact ⟨i + 1, hlt, by omega, weak_ren_to [(0, true)] rfl rfl rfl ⟨rfl, rfl, wrap_nat (m := 1) (by omega), trivial⟩⟩
  ·have : i = G.length := by omega
   subst this
   (conv => whnf); (repeat' ((with_reducible first | refine Box.mk ?_ | refine And.intro (fun _ => ?_) (fun _ => ?_) | fail) <;> conv => whnf))
   ·exfalso; rename_i h; have h : ((G.length : Nat) : Int) < ((hdl G).length : Int) := h; omega
   exact weak_to ⟨rfl, trivial⟩ rfl
end Go.Proofs.YtnajpmepcffnaaaGreatDoor
end

section
/- Code, walked in parts: between two parts the state may be said in fewer words. -/
namespace Go.Ve
open Go

variable {P : Program} {T : TT} {n : Nat}
theorem calls_of_sound [Dr] (hT : TOk P T) (_hm : P.follows .mixedOrders = true) {f : FuncId} {c : Code} {rs : List ResultVar} (hf : FnIs P f n c rs) {args : List AV} (hn : args.length ≤ n) {H : Hp} {K : List AV → Hp → Prop}
  (h : Sound P n none H.length c (FPost T rs K) ⟨env0 args, H⟩) {M0 : Nat → Prop} {σ : List Value} {w : World} {vs : List Value} (hs : St M0 H σ w) (hv : Rvs (Kof M0 H σ w) σ args vs) :
  Calls P f vs.toArray w fun e w' => ∃ xs us H' σ', e = .returned (if h : us.toArray.size = 1 then us.toArray[0] else .tuple us.toArray) ∧ K xs H' ∧ Rvs (Kof M0 H' σ' w') σ' xs us ∧ St M0 H' σ' w' ∧ Ext H σ w H' σ' w' := by
 obtain ⟨fn, h1, h2, rfl, rfl, h5⟩ := hf.ex
 refine (callsIn_wide (n := 0)).1 (callsIn_of_wp_marks (F := Fr none) h1 h2 trivial (wpIn_mono (h w.heap.size none [] M0 H σ w σ w _ hs.len (Ext.refl _ _ _) rfl (Nat.le_refl _) MarksOk.nil hs (hv.act hn)) fun e a' w' hq => ?_))
 obtain ⟨x, s', σ', D', rfl, k1, k2, k3, kD, kd, k4⟩ := hq
 have fin : ∀ (h1 : resOfs T s' fn.results.toList fun vs => K vs s'.H), LeavesInM (Fr none) 0 P fn a'.tmps (fun e w' => ∃ xs us H' σ', e = .returned (if h : us.toArray.size = 1 then us.toArray[0] else .tuple us.toArray) ∧ K xs H' ∧ Rvs (Kof M0 H' σ' w') σ' xs us ∧ St M0 H' σ' w' ∧ Ext H σ w H' σ' w') a'.defers .returning w' := by
  intro h1
  rw [k4.defers]
  refine leaves_marks D' w' (fun d hd => let ⟨r, e, _, _, hr⟩ := kD.each d hd; ⟨r, e, hr⟩) kD.nodup fun w'' hsh => ?_
  obtain ⟨q1, q2, q3⟩ := shut_ok hsh kD k2 k3
  obtain ⟨xs, us, m1, m2, m3⟩ := results_run (fn := fn) hT q1 (⟨k4.size, k4.defers, fun i => (k4.rv i).mono q3 (List.prefix_refl _)⟩ : ActOk D' _ σ' _ s'.env a') h1
  exact ⟨_, m3, xs, us, s'.H, σ', rfl, m1, m2, q1, q2⟩
 cases x with
 | exit id => exact k1.elim
 | normal => exact fin k1
 | ret => exact fin k1

theorem PCall.of_sound [Dr] (hT : TOk P T) (hm : P.follows .mixedOrders = true) {f : FuncId} {c : Code} {rs : List ResultVar} (hf : FnIs P f n c rs) {args : List AV} (hn : args.length ≤ n) {r : AV}
  (h : Sound P n none 0 c (PPost T rs r) ⟨env0 args, []⟩) : PCall P f args r := by
 unfold PCall
 refine ⟨hf.callable, fun M0 w vs hM hG hv => ?_⟩
 have hs : St M0 [] [] w := St.nil hM hG
 have h' : Sound P n none 0 c (FPost T rs fun xs H' => match viewAll H' xs with | some us => forceL us fun us' => mkRes us' = r | none => False) ⟨env0 args, []⟩ := by
  have e : (FPost T rs fun xs H' => match viewAll H' xs with | some us => forceL us fun us' => mkRes us' = r | none => False) = PPost T rs r := by
   funext x s; cases x <;> rfl
  rw [e]; exact h
 refine Calls.mono (calls_of_sound (H := []) hT hm hf hn h' hs (by rw [Kof_nil]; exact hv)) fun e w' he => ?_
 obtain ⟨xs, us, H', σ', rfl, k1, k2, k3, k4⟩ := he
 cases hva : viewAll H' xs with
 | none => rw [hva] at k1; exact k1.elim
 | some ys =>
  rw [hva] at k1
  simp only [forceL_eq] at k1
  subst k1
  exact ⟨_, rfl, ⟨k4.os, k4.tape, k4.output, k4.size, fun b hb => k4.keep b hb Mb_nil⟩, mk_run (viewAll_rv k3 k2 hva)⟩

theorem Sound.seq [Dr] {rd : Option Nat} {N0 : Nat} (hT : TOk P T) (hm : P.follows .mixedOrders = true) {x y : Code} {Q : AQ} {s : AS} (h : AWP P T n rd N0 x (afterQ (fun s' => Sound P n rd N0 y Q s') Q) s) : Sound P n rd N0 (.seq x y) Q s := by
 intro B rc D M0 H0 σ0 w0 σ w a hN0 hE hrd hBw hD hs ha
 refine wpIn_seq (wpIn_mono (awp_sound hT hm x _ s h B rc D M0 H0 σ0 w0 σ w a hN0 hE hrd hBw hD hs ha) fun e a' w' hq => ?_)
 obtain ⟨x1, s', σ', D', rfl, k1, k2, k3, kD, kd, k4⟩ := hq
 cases x1 with
 | normal =>
  refine wpIn_mono (k1 B rc D' M0 H0 σ0 w0 σ' w' a' hN0 k3 hrd hBw kD k2 k4) fun e a'' w'' hq => ?_
  obtain ⟨x1, s'', σ'', D'', rfl, m1, m2, m3, mD, md, m4⟩ := hq
  exact ⟨x1, s'', σ'', D'', rfl, m1, m2, m3, mD, fun h => (md h).trans (kd h), m4⟩
 | exit id => exact ⟨.exit id, s', σ', D', rfl, k1, k2, k3, kD, kd, k4⟩
 | ret => exact ⟨.ret, s', σ', D', rfl, k1, k2, k3, kD, kd, k4⟩
theorem Sound.weak [Dr] {rd : Option Nat} {N0 : Nat} {c : Code} {Q : AQ} {s s2 : AS} (hw : Weak N0 s s2) (h : Sound P n rd N0 c Q s2) : Sound P n rd N0 c Q s := by
 intro B rc D M0 H0 σ0 w0 σ w a hN0 hE hrd hBw hD hs ha
 obtain ⟨σ2, m1, m2, m3, m4⟩ := hw M0 σ w n a D (by rw [← hN0]; exact hE.pre.length_le) hs ha
 refine h B rc D M0 H0 σ0 w0 σ2 w a hN0 ⟨hE.os, hE.tape, hE.output, hE.size, ?_, hE.keep, fun b hb hm => hE.mutb b hb (m2 b hm)⟩ hrd hBw (hD.weak m2) m3 m4
 obtain ⟨t, ht⟩ := hE.pre
 have : σ.take N0 = σ0 := by rw [← ht, ← hN0]; simp
 rw [this] at m1; exact m1
theorem Sound.awp [Dr] {rd : Option Nat} {N0 : Nat} (hT : TOk P T) (hm : P.follows .mixedOrders = true) {c : Code} {Q : AQ} {s : AS} (h : AWP P T n rd N0 c Q s) : Sound P n rd N0 c Q s := awp_sound hT hm c Q s h
end Go.Ve
end

section
/- Code, walked in parts: loops, blocks and tests whose own code is walked in parts. -/
namespace Go.Ve
open Go

variable {P : Program} {n : Nat}
theorem Sound.loop [Dr] {rd : Option Nat} {N0 : Nat} {c : Code} {Q : AQ} {s : AS} {ι : Type} (I : ι → Prop) (shape : ι → AS) (μ : ι → Nat) (i0 : ι) (hI0 : I i0) (hw0 : Weak N0 s (shape i0))
  (hr : ∀ i, I i → Sound P n rd N0 c (afterQ (fun s'' => ∃ j, I j ∧ μ j < μ i ∧ Weak N0 s'' (shape j)) Q) (shape i)) : Sound P n rd N0 (.loop c) Q s := by
 intro B rc D M0 H0 σ0 w0 σ w a hN0 hE hrd hBw hD hs ha
 have weak : ∀ {s1 s2 : AS} {σ1 : List Value} {w1 : World} {a1 : Act} {D1 : List Deferred}, Weak N0 s1 s2 → St M0 s1.H σ1 w1 → Ext H0 σ0 w0 s1.H σ1 w1 → MarksOk B s1.H σ1 w1 D1 → ActOk D1 (Kof M0 s1.H σ1 w1) σ1 n s1.env a1 →
   ∃ σ2, St M0 s2.H σ2 w1 ∧ Ext H0 σ0 w0 s2.H σ2 w1 ∧ MarksOk B s2.H σ2 w1 D1 ∧ ActOk D1 (Kof M0 s2.H σ2 w1) σ2 n s2.env a1 := by
  intro s1 s2 σ1 w1 a1 D1 hw g2 g3 gD g4
  obtain ⟨σ2, m1, m2, m3, m4⟩ := hw M0 σ1 w1 n a1 D1 (by rw [← hN0]; exact g3.pre.length_le) g2 g4
  refine ⟨σ2, m3, ⟨g3.os, g3.tape, g3.output, g3.size, ?_, g3.keep, fun b hb hm => g3.mutb b hb (m2 b hm)⟩, gD.weak m2, m4⟩
  obtain ⟨t, ht⟩ := g3.pre
  have : σ1.take N0 = σ0 := by rw [← ht, ← hN0]; simp
  rw [this] at m1; exact m1
 obtain ⟨σi, i1, i2, iD, i3⟩ := weak hw0 hs hE hD ha
 refine wpIn_loop_ix (ι := ι × List Value × List Deferred) (fun p a' w' => I p.1 ∧ St M0 (shape p.1).H p.2.1 w' ∧ Ext H0 σ0 w0 (shape p.1).H p.2.1 w' ∧ MarksOk B (shape p.1).H p.2.1 w' p.2.2 ∧ (rd ≠ none → p.2.2 = D) ∧ ActOk p.2.2 (Kof M0 (shape p.1).H p.2.1 w') p.2.1 n (shape p.1).env a') (fun p => μ p.1) (i0 := (i0, σi, D)) ⟨hI0, i1, i2, iD, fun _ => rfl, i3⟩ fun p a' w' hI => ?_
 obtain ⟨i, σ', D'⟩ := p
 obtain ⟨g1, g2, g3, gD, gd, g4⟩ := hI
 refine wpIn_mono (hr i g1 B rc D' M0 H0 σ0 w0 σ' w' a' hN0 g3 hrd hBw gD g2 g4) fun e a'' w'' hq => ?_
 obtain ⟨x1, s'', σ'', D'', rfl, k1, k2, k3, kD, kd, k4⟩ := hq
 cases x1 with
 | normal =>
  obtain ⟨j, n2, n3, n1⟩ := k1
  obtain ⟨σ3, o1, o2, oD, o3⟩ := weak n1 k2 k3 kD k4
  exact ⟨(j, σ3, D''), ⟨n2, o1, o2, oD, fun h => (kd h).trans (gd h), o3⟩, n3⟩
 | exit id => exact ⟨.exit id, s'', σ'', D'', rfl, k1, k2, k3, kD, fun h => (kd h).trans (gd h), k4⟩
 | ret => exact ⟨.ret, s'', σ'', D'', rfl, k1, k2, k3, kD, fun h => (kd h).trans (gd h), k4⟩
theorem Sound.mono [Dr] {rd : Option Nat} {N0 : Nat} {c : Code} {Q Q' : AQ} {s : AS} (h : Sound P n rd N0 c Q s) (hq : ∀ x s', Q x s' → Q' x s') : Sound P n rd N0 c Q' s := by
 intro B rc D M0 H0 σ0 w0 σ w a hN0 hE hrd hBw hD hs ha
 refine wpIn_mono (h B rc D M0 H0 σ0 w0 σ w a hN0 hE hrd hBw hD hs ha) fun e a' w' hq' => ?_
 obtain ⟨x1, s', σ', D', rfl, k1, k⟩ := hq'
 exact ⟨x1, s', σ', D', rfl, hq _ _ k1, k⟩
theorem Sound.seqS [Dr] {rd : Option Nat} {N0 : Nat} {x y : Code} {Q : AQ} {s : AS} (h : Sound P n rd N0 x (afterQ (fun s' => Sound P n rd N0 y Q s') Q) s) : Sound P n rd N0 (.seq x y) Q s := by
 intro B rc D M0 H0 σ0 w0 σ w a hN0 hE hrd hBw hD hs ha
 refine wpIn_seq (wpIn_mono (h B rc D M0 H0 σ0 w0 σ w a hN0 hE hrd hBw hD hs ha) fun e a' w' hq => ?_)
 obtain ⟨x1, s', σ', D', rfl, k1, k2, k3, kD, kd, k4⟩ := hq
 cases x1 with
 | normal =>
  refine wpIn_mono (k1 B rc D' M0 H0 σ0 w0 σ' w' a' hN0 k3 hrd hBw kD k2 k4) fun e a'' w'' hq => ?_
  obtain ⟨x1, s'', σ'', D'', rfl, m1, m2, m3, mD, md, m4⟩ := hq
  exact ⟨x1, s'', σ'', D'', rfl, m1, m2, m3, mD, fun h => (md h).trans (kd h), m4⟩
 | exit id => exact ⟨.exit id, s', σ', D', rfl, k1, k2, k3, kD, kd, k4⟩
 | ret => exact ⟨.ret, s', σ', D', rfl, k1, k2, k3, kD, kd, k4⟩
theorem Sound.condS [Dr] {rd : Option Nat} {N0 : Nat} {v : Operand} {x y : Code} {Q : AQ} {s : AS} (h : condQ (evalO s.env v) (Sound P n rd N0 x Q s) (Sound P n rd N0 y Q s)) : Sound P n rd N0 (.cond v x y) Q s := by
 intro B rc D M0 H0 σ0 w0 σ w a hN0 hE hrd hBw hD hs ha
 unfold condQ at h
 split at h
 ·rename_i t ht
  have hv := ha.eval v
  rw [ht] at hv
  cases t with
  | true => exact wpIn_cond_true hv.bool_inv (h B rc D M0 H0 σ0 w0 σ w a hN0 hE hrd hBw hD hs ha)
  | false => exact wpIn_cond_false hv.bool_inv (h B rc D M0 H0 σ0 w0 σ w a hN0 hE hrd hBw hD hs ha)
 ·exact h.elim
theorem Sound.block [Dr] {rd : Option Nat} {N0 : Nat} {id : Nat} {c : Code} {Q : AQ} {s : AS} (h : Sound P n rd N0 c (blockQ id Q) s) : Sound P n rd N0 (.block id c) Q s := by
 intro B rc D M0 H0 σ0 w0 σ w a hN0 hE hrd hBw hD hs ha
 refine wpIn_block (wpIn_mono (h B rc D M0 H0 σ0 w0 σ w a hN0 hE hrd hBw hD hs ha) fun e a' w' hq => ?_)
 obtain ⟨x1, s', σ', D', rfl, k1, k⟩ := hq
 cases x1 with
 | normal => exact ⟨.normal, s', σ', D', rfl, k1, k⟩
 | ret => exact ⟨.ret, s', σ', D', rfl, k1, k⟩
 | exit i =>
  simp only [blockQ] at k1
  simp only [toE, Exit.inBlock]
  by_cases hid : i = id
  ·subst hid
   rw [if_pos rfl]
   have : Nat.beq i i = true := Nat.beq_refl i
   rw [this] at k1
   exact ⟨.normal, s', σ', D', rfl, k1, k⟩
  ·rw [if_neg hid]
   rw [beq_ne hid] at k1
   exact ⟨.exit i, s', σ', D', rfl, k1, k⟩
end Go.Ve
end

section
/- The document's messages: the head, the sets. -/
namespace Go.Proofs.YtnajpmepcffnaaaGreatDoor
open Go.Ve
attribute [local irreducible] Sound

theorem val_two (x y : UInt8) : valB [x, y] = x.toNat * 256 + y.toNat := by
 have := valB_app [x] [y]
 rw [show [x] ++ [y] = [x, y] from rfl] at this
 rw [this]
 have h1 : ∀ z : UInt8, valB [z] = z.toNat := fun z => by simp [valB, valA]
 rw [h1, h1]; rfl
theorem two_at {b : Bs} {i : Nat} (h : i + 2 ≤ b.length) : ∃ x y : UInt8, b[i]? = some x ∧ b[i + 1]? = some y ∧ valB ((b.drop i).take 2) = x.toNat * 256 + y.toNat := by
 refine ⟨b[i], b[i + 1], List.getElem?_eq_getElem _, List.getElem?_eq_getElem _, ?_⟩
 rw [← val_two]
 congr 1
 rw [List.drop_eq_getElem_cons (by omega), List.drop_eq_getElem_cons (by omega)]
 rfl
theorem two_wrap (x y : UInt8) : IntKind.i64.wrap (IntKind.i64.wrap (256 * IntKind.i64.wrap (x.toNat : Int)) + IntKind.i64.wrap (y.toNat : Int)) = ((x.toNat * 256 + y.toNat : Nat) : Int) := by
 have hx := x.toNat_lt
 have hy := y.toNat_lt
 rw [wrap_i64 (n := (x.toNat : Int)) (by omega) (by omega), wrap_i64 (n := (y.toNat : Int)) (by omega) (by omega), wrap_i64 (n := 256 * _) (by omega) (by omega), wrap_i64 (by omega) (by omega)]
 omega
theorem wrap_at {i k : Nat} (h : i + k ≤ 2000000000) : IntKind.i64.wrap ((i : Int) + ((k : Nat) : Int)) = ((i + k : Nat) : Int) := by
 rw [wrap_i64 (by omega) (by omega)]; omega

set_option maxHeartbeats 4000000 in
theorem r17Head_ok (b : Bs) (hb : b.length ≤ 1000000000) : PCall P 23 [.sl (bcl b)] (.tup [if headE b ≠ 0 then hv0 else hvB b, .int .i64 (headE b)]) := by
 have hbl := bcl_len b
 by_cases h16 : b.length < 16
 ·have he : headE b = 8 := by unfold headE; rw [if_pos h16]
  rw [he, if_pos (by decide)]
  refine PCall.of_awp tok mixed fn23 (Nat.le_of_ble_eq_true rfl) ?_
  (conv => whnf); (repeat' ((with_reducible first | refine Box.mk ?_ | refine And.intro (fun _ => ?_) (fun _ => ?_) | fail) <;> conv => whnf))
  ·rfl
  all_goals (exfalso; omega)
 ·obtain ⟨x0, x1, g0, g1, v0⟩ := two_at (b := b) (i := 0) (by omega)
  obtain ⟨x2, x3, g2, g3, v2⟩ := two_at (b := b) (i := 2) (by omega)
  have c0 := bcl_get g0
  have c1 := bcl_get g1
  have c2 := bcl_get g2
  have c3 := bcl_get g3
  have w0 := two_wrap x0 x1
  have w2 := two_wrap x2 x3
  have hd : b.drop 0 = b := rfl
  rw [hd] at v0
  unfold headE
  rw [if_neg h16]
  unfold idB cntB
  obtain ⟨i, hi⟩ : ∃ i : Nat, x0.toNat * 256 + x1.toNat = i := ⟨_, rfl⟩
  obtain ⟨n, hn⟩ : ∃ n : Nat, x2.toNat * 256 + x3.toNat = n := ⟨_, rfl⟩
  rw [hi] at v0 w0
  rw [hn] at v2 w2
  rw [v0, v2]
  clear hi hn v0 v2
  refine PCall.of_sound tok mixed fn23 (Nat.le_of_ble_eq_true rfl) ?_
  refine Sound.seq tok mixed ?_
  (conv => whnf); repeat' ((with_reducible refine Box.mk ?_) <;> conv => whnf)
  refine Sound.seq tok mixed ?_
  (conv => whnf); repeat' ((with_reducible refine Box.mk ?_) <;> conv => whnf)
  refine Sound.seq tok mixed ?_
  (conv => whnf); (repeat' ((with_reducible first | refine Box.mk ?_ | refine And.intro (fun _ => ?_) (fun _ => ?_) | fail) <;> conv => whnf))
  ·exfalso; omega
  refine Sound.seq tok mixed ?_
  (conv => whnf); (repeat' ((with_reducible first | refine Box.mk ?_ | refine And.intro (fun _ => ?_) (fun _ => ?_) | refine (forceH_eq _ _).mpr ?_ | fail) <;> conv => whnf))
  refine ⟨[], by kernel_rfl, ?_⟩
  (conv => whnf); repeat' ((with_reducible refine Box.mk ?_) <;> conv => whnf)
  refine ⟨by decide, _, c0, rfl, ?_⟩
  (conv => whnf); repeat' ((with_reducible refine Box.mk ?_) <;> conv => whnf)
  refine ⟨by decide, _, c1, rfl, ?_⟩
  (conv => whnf); (repeat' ((with_reducible first | refine Box.mk ?_ | refine And.intro (fun _ => ?_) (fun _ => ?_) | fail) <;> conv => whnf))

  rotate_left
  ·rename_i hi
   have hi : ¬ IntKind.i64.wrap (IntKind.i64.wrap (256 * IntKind.i64.wrap (x0.toNat : Int)) + IntKind.i64.wrap (x1.toNat : Int)) = 10 := hi
   rw [w0] at hi
   rw [if_pos (show i ≠ 10 by omega), if_pos (by decide)]
   rfl
  rename_i hi
  rw [w0] at hi
  rw [if_neg (show ¬ i ≠ 10 by omega)]
  refine Sound.seq tok mixed ?_
  (conv => whnf); (repeat' ((with_reducible first | refine Box.mk ?_ | refine And.intro (fun _ => ?_) (fun _ => ?_) | refine (forceH_eq _ _).mpr ?_ | fail) <;> conv => whnf))
  refine ⟨[], by kernel_rfl, ?_⟩
  (conv => whnf); repeat' ((with_reducible refine Box.mk ?_) <;> conv => whnf)
  refine ⟨by decide, _, c2, rfl, ?_⟩
  (conv => whnf); repeat' ((with_reducible refine Box.mk ?_) <;> conv => whnf)
  refine ⟨by decide, _, c3, rfl, ?_⟩
  (conv => whnf); repeat' ((with_reducible refine Box.mk ?_) <;> conv => whnf)
  rw [w2]
  have q1 := xrNum_ok (b.take 4) (b.drop 4) 0 4 (by rw [List.take_append_drop]; exact hb)
  have q2 := xrNum_ok (b.take 8) (b.drop 8) 0 4 (by rw [List.take_append_drop]; exact hb)
  have q3 := xrNum_ok (b.take 12) (b.drop 12) 0 4 (by rw [List.take_append_drop]; exact hb)
  have t4 : ∀ k, k + 4 ≤ b.length → rawF ((4 : Nat) : Int) (b.drop k) 0 = ((b.drop k).take 4, b.drop (k + 4), 0) := fun k hk => by
   rw [rawF_yes (by rw [List.length_drop]; omega), List.drop_drop]
  have a4 : ∀ k, b.take k ++ (b.drop k).take 4 = b.take (k + 4) := fun k => by rw [List.take_add]
  rw [show ((szN 4 : Nat) : Int) = ((4 : Nat) : Int) from rfl, t4 _ (by omega), a4] at q1 q2 q3
  have q1 : DCall P _ _ (xH (b.take 4) (b.drop 4) 0) (.int .u64 (hTime b : Int)) (xH (b.take 8) (b.drop 8) 0) := q1
  have q2 : DCall P _ _ (xH (b.take 8) (b.drop 8) 0) (.int .u64 (hSeq b : Int)) (xH (b.take 12) (b.drop 12) 0) := q2
  have q3 : DCall P _ _ (xH (b.take 12) (b.drop 12) 0) (.int .u64 (hDom b : Int)) (xH (b.take 16) (b.drop 16) 0) := q3
  have l4 : ((b.take 4).length : Int) = 4 := by rw [List.length_take]; omega
  unfold xH at q1 q2 q3
  rw [List.take_append_drop] at q1 q2 q3
  rw [List.take_append_drop] at q1 q2 q3
  rw [l4] at q1
  have v1 : hTime b < 4294967296 := val4 _
  have v2 : hSeq b < 4294967296 := val4 _
  have v3 : hDom b < 4294967296 := val4 _
  unfold hvB
  have u1 : IntKind.u32.wrap (hTime b : Int) = hTime b := wrap_u32 (by omega) (by omega)
  have u2 : IntKind.u32.wrap (hSeq b : Int) = hSeq b := wrap_u32 (by omega) (by omega)
  have u3 : IntKind.u32.wrap (hDom b : Int) = hDom b := wrap_u32 (by omega) (by omega)
  refine Sound.seq tok mixed ?_
  (conv => whnf); (repeat' ((with_reducible first | refine Box.mk ?_ | refine And.intro (fun _ => ?_) (fun _ => ?_) | fail) <;> conv => whnf))
  ·rw [if_pos (show n < 16 by omega), if_pos (by decide)]
   rfl
  rw [if_neg (show ¬ n < 16 by omega)]
  refine Sound.seq tok mixed ?_
  (conv => whnf); (repeat' ((with_reducible first | refine Box.mk ?_ | refine And.intro (fun _ => ?_) (fun _ => ?_) | fail) <;> conv => whnf))
  ·rw [if_pos (show b.length < n by omega), if_pos (by decide)]
   rfl
  rw [if_neg (show ¬ b.length < n by omega)]
  refine Sound.seq tok mixed ?_
  (conv => whnf); (repeat' ((with_reducible first | refine Box.mk ?_ | refine And.intro (fun _ => ?_) (fun _ => ?_) | fail) <;> conv => whnf))
  ·rw [if_pos (show n < b.length by omega), if_pos (by decide)]
   rfl
  rw [if_neg (show ¬ n < b.length by omega), if_neg (fun h => h rfl)]
  refine Sound.awp tok mixed ?_
  (conv => whnf); repeat' ((with_reducible refine Box.mk ?_) <;> conv => whnf)
  refine aW [2] q1 rfl rfl rfl ?_
  (conv => whnf); repeat' ((with_reducible refine Box.mk ?_) <;> conv => whnf)
  refine aW [2] q2 rfl rfl rfl ?_
  (conv => whnf); repeat' ((with_reducible refine Box.mk ?_) <;> conv => whnf)
  refine aW [2] q3 rfl rfl rfl ?_
  (conv => whnf); repeat' ((with_reducible refine Box.mk ?_) <;> conv => whnf)
  rw [u1, u2, u3]
  rfl
def stc (x : Nat × Bs) : List AV := [.int .i64 (x.1 : Int), .sl (bcl x.2)]
def stl (l : List (Nat × Bs)) : List (List AV) := l.map stc
theorem stl_len (l : List (Nat × Bs)) : (stl l).length = l.length := List.length_map ..
theorem stl_get {l : List (Nat × Bs)} {i : Nat} {x : Nat × Bs} (h : l[i]? = some x) : (stl l)[(i : Int).toNat]? = some (stc x) := by
 rw [Int.toNat_natCast, stl, List.getElem?_map, h]; rfl
theorem bcl_mid (b : Bs) (i j : Nat) : ((bcl b).take i).drop j = bcl ((b.take i).drop j) := by rw [bcl, bcl, List.map_drop, List.map_take]
theorem cut_set {b : Bs} {at_ n : Nat} (h : 4 ≤ n) : (b.take (at_ + n)).drop (at_ + 4) = ((b.drop at_).drop 4).take (n - 4) := by
 rw [List.drop_drop, List.drop_take, show at_ + n - (at_ + 4) = n - 4 by omega]
theorem r17Sets_ok (b : Bs) (hb16 : 16 ≤ b.length) (hb : b.length ≤ 1000000000) : PCall P 24 [.sl (bcl b)] (.tup [.sl (stl (setsL (b.drop 16).length (b.drop 16)).1), .int .i64 (setsL (b.drop 16).length (b.drop 16)).2]) := by
 have hbl := bcl_len b
 obtain ⟨z, hz⟩ : ∃ z, setsL (b.drop 16).length (b.drop 16) = z := ⟨_, rfl⟩
 rw [hz]
 obtain ⟨sl, er⟩ := z
 refine PCall.of_awp tok mixed fn24 (Nat.le_of_ble_eq_true rfl) ?_
 (conv => whnf); repeat' ((with_reducible refine Box.mk ?_) <;> conv => whnf)
 refine aloop (fun x : Nat × List (Nat × Bs) × Nat => 16 ≤ x.1 ∧ x.1 ≤ b.length ∧ (b.drop x.1).length ≤ x.2.2 ∧ x.2.1.length ≤ x.1 ∧ (x.2.1 ++ (setsL x.2.2 (b.drop x.1)).1, (setsL x.2.2 (b.drop x.1)).2) = (sl, er))
  (fun x => ⟨envL [(0, .sl (bcl b)), (4, .own 0), (5, .int .i64 (x.1 : Int))], [] ++ [Ob.row 78 2 (stl x.2.1)]⟩) (fun x => b.length - x.1) (16, [], (b.drop 16).length) ⟨Nat.le_refl _, hb16, Nat.le_refl _, Nat.zero_le _, hz⟩ ?_ ?_
 ·exact weak_nl [] (l1 := [(0, .sl (bcl b)), (4, .nils), (5, .int .i64 16)]) (H1 := []) 78 2 (by decide) rfl rfl rfl ⟨rfl, rfl, rfl, trivial⟩ ⟨.inl rfl, .inr ⟨rfl, rfl⟩, .inl rfl, trivial⟩ trivial
 clear hz
 rintro ⟨i, l, m⟩ ⟨h16, hi, hm, hll, hz⟩
 dsimp only at h16 hi hm hll hz ⊢
 have hdl : (b.drop i).length = b.length - i := List.length_drop
 have hsl := stl_len l
 by_cases hlt : i < b.length
 ·have hne : b.drop i ≠ [] := fun h => by rw [h] at hdl; simp at hdl; omega
  obtain ⟨m, rfl⟩ : ∃ k, m = k + 1 := ⟨m - 1, by omega⟩
  unfold setsL at hz
  rw [if_neg hne] at hz
  have w1 : IntKind.i64.wrap (((bcl b).length : Int) - (i : Int)) = ((b.length - i : Nat) : Int) := by rw [hbl, wrap_i64 (by omega) (by omega)]; omega
  by_cases h4 : (b.drop i).length < 4
  ·rw [if_pos h4] at hz
   simp only [List.append_nil, Prod.mk.injEq] at hz
   obtain ⟨rfl, rfl⟩ := hz
   (conv => whnf); (repeat' ((with_reducible first | refine Box.mk ?_ | refine And.intro (fun _ => ?_) (fun _ => ?_) | fail) <;> conv => whnf))
   ·rfl
   all_goals (exfalso; omega)
  rw [if_neg h4] at hz
  obtain ⟨x0, x1, g0, g1, v0⟩ := two_at (b := b) (i := i) (by omega)
  obtain ⟨x2, x3, g2, g3, v2⟩ := two_at (b := b) (i := i + 2) (by omega)
  have c0 := bcl_get g0
  have c1 := bcl_get g1
  have c2 := bcl_get g2
  have c3 := bcl_get g3
  have w0 := two_wrap x0 x1
  have w2 := two_wrap x2 x3
  have e1 : idB (b.drop i) = x0.toNat * 256 + x1.toNat := v0
  have e2 : cntB (b.drop i) = x2.toNat * 256 + x3.toNat := by unfold cntB; rw [List.drop_drop]; exact v2
  rw [e1, e2] at hz
  obtain ⟨id, hid⟩ : ∃ id : Nat, x0.toNat * 256 + x1.toNat = id := ⟨_, rfl⟩
  obtain ⟨n, hn⟩ : ∃ n : Nat, x2.toNat * 256 + x3.toNat = n := ⟨_, rfl⟩
  have hn2 : n < 65536 := by have := x2.toNat_lt; have := x3.toNat_lt; omega
  rw [hid] at w0 hz
  rw [hn] at w2 hz
  clear hid hn v0 v2 e1 e2 g0 g1 g2 g3
  have a1 : IntKind.i64.wrap ((i : Int) + 1) = ((i + 1 : Nat) : Int) := wrap_at (k := 1) (by omega)
  have a2 : IntKind.i64.wrap ((i : Int) + 2) = ((i + 2 : Nat) : Int) := wrap_at (k := 2) (by omega)
  have a3 : IntKind.i64.wrap ((i : Int) + 3) = ((i + 2 + 1 : Nat) : Int) := wrap_at (k := 3) (by omega)
  have a4 : IntKind.i64.wrap ((i : Int) + 4) = ((i + 4 : Nat) : Int) := wrap_at (k := 4) (by omega)
  have an : IntKind.i64.wrap ((i : Int) + (n : Int)) = ((i + n : Nat) : Int) := wrap_at (by omega)
  (conv => whnf); (repeat' ((with_reducible first | refine Box.mk ?_ | refine And.intro (fun _ => ?_) (fun _ => ?_) | fail) <;> conv => whnf))
  ·exfalso; omega
  refine ⟨[], by kernel_rfl, ?_⟩
  (conv => whnf); repeat' ((with_reducible refine Box.mk ?_) <;> conv => whnf)
  refine ⟨by omega, _, c0, rfl, ?_⟩
  (conv => whnf); repeat' ((with_reducible refine Box.mk ?_) <;> conv => whnf)
  rw [a1]
  refine ⟨by omega, _, c1, rfl, ?_⟩
  (conv => whnf); repeat' ((with_reducible refine Box.mk ?_) <;> conv => whnf)
  refine ⟨[], by kernel_rfl, ?_⟩
  (conv => whnf); repeat' ((with_reducible refine Box.mk ?_) <;> conv => whnf)
  rw [a2]
  refine ⟨by omega, _, c2, rfl, ?_⟩
  (conv => whnf); repeat' ((with_reducible refine Box.mk ?_) <;> conv => whnf)
  rw [a3]
  refine ⟨by omega, _, c3, rfl, ?_⟩
  (conv => whnf); (repeat' ((with_reducible first | refine Box.mk ?_ | refine And.intro (fun _ => ?_) (fun _ => ?_) | fail) <;> conv => whnf))
  ·rename_i h3
   rw [w2] at h3
   rw [if_pos (show n < 4 by omega)] at hz
   simp only [List.append_nil, Prod.mk.injEq] at hz
   obtain ⟨rfl, rfl⟩ := hz
   rfl
  ·rename_i h3 h5
   rw [w2] at h3 h5
   rw [if_neg (show ¬ n < 4 by omega), if_pos (show (b.drop i).length < n by omega)] at hz
   simp only [List.append_nil, Prod.mk.injEq] at hz
   obtain ⟨rfl, rfl⟩ := hz
   rfl
  ·rename_i h3 h5
   rw [w2] at h3 h5
   rw [if_neg (show ¬ n < 4 by omega), if_neg (show ¬ (b.drop i).length < n by omega)] at hz
   rw [w2, an]
   refine ⟨by omega, by omega, ?_⟩
   (conv => whnf); (repeat' ((first | (with_reducible first | refine Box.mk ?_ | refine And.intro (fun _ => ?_) (fun _ => ?_) | refine (forceH_eq _ _).mpr ?_ | fail) | ((with_reducible show _ ∧ _ ∧ _); refine ⟨by omega, by omega, ?_⟩) | fail) <;> conv => whnf))
   rw [a4]
   refine ⟨bcl_all _, ?_⟩
   (conv => whnf); repeat' ((with_reducible refine Box.mk ?_) <;> conv => whnf)
   refine ⟨fun c hc => by rw [List.mem_singleton.1 hc]; exact ⟨rfl, rfl⟩, by rw [hsl]; show (_ + 1) * 32 ≤ _; omega, by rw [hsl]; show _ + 1 ≤ _; omega, ?_⟩
   (conv => whnf); repeat' ((with_reducible refine Box.mk ?_) <;> conv => whnf)
   refine ⟨(i + n, l ++ [(id, ((b.drop i).drop 4).take (n - 4))], m), ⟨by show 16 ≤ i + n; omega, by show i + n ≤ _; omega, by show (b.drop (i + n)).length ≤ m; rw [List.length_drop]; omega, by show (l ++ [_]).length ≤ i + n; rw [List.length_append]; show l.length + 1 ≤ _; omega, ?_⟩, by show b.length - (i + n) < b.length - i; omega, weak_ren_to [(2, true)] rfl rfl ?_ ⟨rfl, rfl, congrArg (AV.int .i64) an, trivial⟩⟩
   ·show (l ++ [_] ++ (setsL m (b.drop (i + n))).1, (setsL m (b.drop (i + n))).2) = _
    rw [← hz, show (b.drop i).drop n = b.drop (i + n) by rw [List.drop_drop], List.append_assoc]
    rfl
   ·have e5 : ((bcl b).take ((i + n : Nat) : Int).toNat).drop ((i + 4 : Nat) : Int).toNat = bcl (((b.drop i).drop 4).take (n - 4)) := by
     rw [Int.toNat_natCast, Int.toNat_natCast, bcl_mid, cut_set (by omega)]
    show [Ob.row _ _ (stl l ++ [[AV.int .i64 _, AV.sl _]])] = [Ob.row _ _ (stl (l ++ [_]))]
    rw [show stl (l ++ [(id, ((b.drop i).drop 4).take (n - 4))]) = stl l ++ [stc (id, ((b.drop i).drop 4).take (n - 4))] from List.map_append]
    unfold stc
    dsimp only
    rw [← e5, ← w0]
  all_goals (exfalso; omega)
 ·have hi2 : i = b.length := by omega
  have hz2 : setsL m (b.drop i) = ([], 0) := by
   cases m with
   | zero => rfl
   | succ m => unfold setsL; rw [if_pos (List.length_eq_zero_iff.1 (by omega))]
  rw [hz2] at hz
  simp only [List.append_nil, Prod.mk.injEq] at hz
  obtain ⟨rfl, rfl⟩ := hz
  (conv => whnf); (repeat' ((with_reducible first | refine Box.mk ?_ | refine And.intro (fun _ => ?_) (fun _ => ?_) | fail) <;> conv => whnf))
  all_goals first
   | (exfalso; omega)
   | rfl
end Go.Proofs.YtnajpmepcffnaaaGreatDoor
end

section
/- The document's cache: Right, Ahead, Find, Without, DropAll. -/
namespace Go.Proofs.YtnajpmepcffnaaaGreatDoor
open Go.Ve

theorem r16Right_ok (t : Tm) (hl : t.fields.length ≤ 1000000000) : PCall P 79 [tv t] (.bool (rightT t)) := by
 have hfl := scl_len t.fields
 have hA : (256 ≤ t.id ∧ t.id ≤ 65535 ∧ 1 ≤ t.fields.length ∧ t.fields.length ≤ 64 ∧ 0 ≤ t.scope ∧ t.scope ≤ t.fields.length) → rightT t = t.fields.all fun s => decide (saysS s ≠ -1) := fun h => by
  unfold rightT; rw [decide_eq_true h, Bool.true_and]
 have hB : ¬ (256 ≤ t.id ∧ t.id ≤ 65535 ∧ 1 ≤ t.fields.length ∧ t.fields.length ≤ 64 ∧ 0 ≤ t.scope ∧ t.scope ≤ t.fields.length) → rightT t = false := fun h => by
  unfold rightT; rw [decide_eq_false h, Bool.false_and]
 refine PCall.of_awp tok mixed fn79 (Nat.le_of_ble_eq_true rfl) ?_
 (conv => whnf); (repeat' ((with_reducible first | refine Box.mk ?_ | refine And.intro (fun _ => ?_) (fun _ => ?_) | fail) <;> conv => whnf))
 all_goals try (exact congrArg AV.bool (hB (by omega)).symm)
 refine aloopH (fun i : Nat => i ≤ t.fields.length ∧ ∀ j x, j < i → t.fields[j]? = some x → saysS x ≠ -1) (fun i => [(1, .ptr 0 0), (3, .int .i64 ((scl t.fields).length : Int)), (4, .int .i64 (i : Int))]) (fun _ H => H) (fun i => t.fields.length - i) 0 ⟨Nat.zero_le _, fun j x h => by omega⟩ (weak_to ⟨rfl, rfl, rfl, trivial⟩ rfl) ?_
 rintro i ⟨hi, hok⟩
 by_cases hlt : i < t.fields.length
 ·have hx := List.getElem?_eq_getElem hlt
  have hok2 : saysS t.fields[i] ≠ -1 → ∀ j x, j < i + 1 → t.fields[j]? = some x → saysS x ≠ -1 := fun hne j x hj hxj => by
   rcases Nat.lt_or_ge j i with h | h
   ·exact hok j x h hxj
   ·have : j = i := by omega
    subst this
    rw [hx] at hxj
    rw [← Option.some.inj hxj]; exact hne
  have hno : saysS t.fields[i] = -1 → rightT t = false := fun h => by
   rw [hA (by omega)]
   exact List.all_eq_false.2 ⟨_, List.mem_of_getElem? hx, by simp [h]⟩
  generalize t.fields[i] = s at *
  have q1 := xfSays_ok s
  have hs : -1 ≤ saysS s := by
   rcases says_cases s with hs | hs | ⟨_, hs | hs | hs | hs | hs | hs | hs | hs⟩ <;> omega
  (conv => whnf); (repeat' ((with_reducible first | refine Box.mk ?_ | refine And.intro (fun _ => ?_) (fun _ => ?_) | fail) <;> conv => whnf))
  rotate_left
  ·exfalso; rename_i h; have h : ¬ (i : Int) < ((scl t.fields).length : Int) := h; omega
  refine ⟨by omega, scc s, scl_get hx, rfl, ?_⟩
  (conv => whnf); (repeat' ((first | (with_reducible first | refine Box.mk ?_ | refine And.intro (fun _ => ?_) (fun _ => ?_) | fail) | ((with_reducible show ACall _ _ _ _ _); refine ACall.of_pure (by assumption) (by rfl) ?_) | fail) <;> conv => whnf))
  ·exact congrArg AV.bool (hno (by omega)).symm
  ·exact ⟨i + 1, ⟨hlt, hok2 (by omega)⟩, by omega, weak_to ⟨rfl, rfl, wrap_nat (m := 1) (by omega), trivial⟩ rfl⟩
 ·have : i = t.fields.length := by omega
  subst this
  have hyes : rightT t = true := by
   rw [hA (by omega)]
   refine List.all_eq_true.2 fun x hx => ?_
   obtain ⟨j, hj⟩ := List.getElem?_of_mem hx
   exact decide_eq_true (hok j x (List.getElem?_eq_some_iff.1 hj).1 hj)
  (conv => whnf); (repeat' ((with_reducible first | refine Box.mk ?_ | refine And.intro (fun _ => ?_) (fun _ => ?_) | fail) <;> conv => whnf))
  ·exfalso; rename_i h; have h : ((t.fields.length : Nat) : Int) < ((scl t.fields).length : Int) := h; omega
  exact congrArg AV.bool hyes.symm

theorem cmpHd_neg (g h : Hd) : cmpHd g h < 0 ↔ g.dom < h.dom ∨ g.dom = h.dom ∧ g.t.id < h.t.id := by
 unfold cmpHd cmpPl keyH cmpI
 dsimp only
 repeat' split
 all_goals omega
def aheadG (h : Hd) (d : Nat) (id : Int) : Bool := decide (h.dom < d ∨ h.dom = d ∧ h.t.id < id)
theorem r16Ahead_ok (h : Hd) (d : Nat) (id : Int) : PCall P 80 [.agg (hdc h), .int .u32 (d : Int), .int .i64 id] (.bool (aheadG h d id)) := by
 unfold aheadG
 refine PCall.of_awp tok mixed fn80 (Nat.le_of_ble_eq_true rfl) ?_
 (conv => whnf); (repeat' ((with_reducible first | refine Box.mk ?_ | refine And.intro (fun _ => ?_) (fun _ => ?_) | fail) <;> conv => whnf))
 all_goals first
  | exact bool_true (decide_eq_true (by omega))
  | exact bool_false (decide_eq_false (by omega))

theorem findG_hit {G : List Hd} {k : Pl} {i : Nat} {h : Hd} (hx : G[i]? = some h) (hk : keyH h = k) (hn : ∀ j x, j < i → G[j]? = some x → keyH x ≠ k) : findG G k = some h := by
 unfold findG
 have hi := (List.getElem?_eq_some_iff.1 hx).1
 refine List.find?_eq_some_iff_getElem.2 ⟨decide_eq_true hk, i, hi, (List.getElem?_eq_some_iff.1 hx).2, fun j hj => ?_⟩
 have := hn j (G[j]'(by omega)) hj (List.getElem?_eq_getElem _)
 simp [this]
theorem findG_miss {G : List Hd} {k : Pl} (hn : ∀ j x, j < G.length → G[j]? = some x → keyH x ≠ k) : findG G k = none := by
 unfold findG
 refine List.find?_eq_none.2 fun x hx => ?_
 obtain ⟨j, hj⟩ := List.getElem?_of_mem hx
 simp [hn j x (List.getElem?_eq_some_iff.1 hj).1 hj]
theorem r16Find_ok (G : List Hd) (d : Nat) (id : Int) (hl : G.length ≤ 1000000000) : PCall P 54 [.sl (hdl G), .int .u32 (d : Int), .int .i64 id] (foundV (findG G (d, id))) := by
 have hgl := hdl_len G
 refine PCall.of_awp tok mixed fn54 (Nat.le_of_ble_eq_true rfl) ?_
 (conv => whnf); repeat' ((with_reducible refine Box.mk ?_) <;> conv => whnf)
 refine aloopH (fun i : Nat => i ≤ G.length ∧ ∀ j x, j < i → G[j]? = some x → keyH x ≠ (d, id)) (fun i => [(0, .sl (hdl G)), (1, .int .u32 (d : Int)), (2, .int .i64 id), (6, .ptr 0 0), (8, .int .i64 (i : Int))]) (fun _ H => H) (fun i => G.length - i) 0 ⟨Nat.zero_le _, fun j x h => by omega⟩ (weak_to ⟨rfl, rfl, rfl, rfl, rfl, trivial⟩ rfl) ?_
 rintro i ⟨hi, hok⟩
 by_cases hlt : i < G.length
 ·have hx := List.getElem?_eq_getElem hlt
  have hok2 : keyH G[i] ≠ (d, id) → ∀ j x, j < i + 1 → G[j]? = some x → keyH x ≠ (d, id) := fun hne j x hj hxj => by
   rcases Nat.lt_or_ge j i with h | h
   ·exact hok j x h hxj
   ·have : j = i := by omega
    subst this
    rw [hx] at hxj
    rw [← Option.some.inj hxj]; exact hne
  have hyes : keyH G[i] = (d, id) → findG G (d, id) = some G[i] := fun h => findG_hit hx h hok
  generalize G[i] = h at *
  have hg := hdl_get2 hx
  have hkey : h.dom = d → h.t.id = id → keyH h = (d, id) := fun h1 h2 => by unfold keyH; rw [h1, h2]
  have hkey2 : (h.dom ≠ d ∨ h.t.id ≠ id) → keyH h ≠ (d, id) := fun h1 h2 => by
   unfold keyH at h2
   simp only [Prod.mk.injEq] at h2
   omega
  (conv => whnf); (repeat' ((with_reducible first | refine Box.mk ?_ | refine And.intro (fun _ => ?_) (fun _ => ?_) | fail) <;> conv => whnf))
  rotate_left
  ·exfalso; rename_i h; have h : ¬ (i : Int) < ((hdl G).length : Int) := h; omega
  refine ⟨by omega, hdc h, hg, rfl, ?_⟩
  (conv => whnf); (repeat' ((with_reducible first | refine Box.mk ?_ | refine And.intro (fun _ => ?_) (fun _ => ?_) | fail) <;> conv => whnf))
  ·refine ⟨by omega, hdc h, hg, rfl, ?_⟩
   (conv => whnf); (repeat' ((with_reducible first | refine Box.mk ?_ | refine And.intro (fun _ => ?_) (fun _ => ?_) | fail) <;> conv => whnf))
   ·refine ⟨by omega, hdc h, hg, rfl, ?_⟩
    (conv => whnf); repeat' ((with_reducible refine Box.mk ?_) <;> conv => whnf)
    rw [hyes (hkey (by omega) (by omega))]
    rfl
   ·exact ⟨i + 1, ⟨hlt, hok2 (hkey2 (by omega))⟩, by omega, weak_to ⟨rfl, rfl, rfl, rfl, wrap_nat (m := 1) (by omega), trivial⟩ rfl⟩
  ·exact ⟨i + 1, ⟨hlt, hok2 (hkey2 (by omega))⟩, by omega, weak_to ⟨rfl, rfl, rfl, rfl, wrap_nat (m := 1) (by omega), trivial⟩ rfl⟩
 ·have : i = G.length := by omega
  subst this
  rw [findG_miss hok]
  (conv => whnf); (repeat' ((with_reducible first | refine Box.mk ?_ | refine And.intro (fun _ => ?_) (fun _ => ?_) | fail) <;> conv => whnf))
  ·exfalso; rename_i h; have h : ((G.length : Nat) : Int) < ((hdl G).length : Int) := h; omega
  rfl
end Go.Proofs.YtnajpmepcffnaaaGreatDoor
end

section
/- The document's cache: Without, DropAll, Set. -/
namespace Go.Proofs.YtnajpmepcffnaaaGreatDoor
open Go.Ve
attribute [local irreducible] Sound

theorem hdl_all (l : List Hd) : allLen 4 (hdl l) := fun c hc => (hdl_cells l c hc).1
theorem hdl_app (a b : List Hd) : hdl (a ++ b) = hdl a ++ hdl b := List.map_append
theorem hdl_cut (l : List Hd) (i : Nat) : ((hdl l).take (hdl l).length).drop i = hdl (l.drop i) := by rw [List.take_length, hdl, hdl, List.map_drop]
theorem filt_step {α : Type} (p : α → Bool) {l : List α} {i : Nat} {x : α} (h : l[i]? = some x) : (l.take (i + 1)).filter p = (l.take i).filter p ++ (if p x then [x] else []) := by
 rw [List.take_add_one, h, List.filter_append]
 congr 1
 show List.filter p [x] = _
 cases hp : p x <;> simp [List.filter, hp]
theorem filt_len {α : Type} (p : α → Bool) (l : List α) (i : Nat) : ((l.take i).filter p).length ≤ l.length := by
 refine Nat.le_trans (List.length_filter_le _ _) ?_
 rw [List.length_take]; omega
theorem r16Without_ok (G : List Hd) (d : Nat) (id : Int) (hl : G.length ≤ 100000000) : PCall P 78 [.sl (hdl G), .int .u32 (d : Int), .int .i64 id] (.sl (hdl (withoutG G (d, id)))) := by
 have hgl := hdl_len G
 refine PCall.of_awp tok mixed fn78 (Nat.le_of_ble_eq_true rfl) ?_
 (conv => whnf); repeat' ((with_reducible refine Box.mk ?_) <;> conv => whnf)
 refine aloop (fun i : Nat => i ≤ G.length) (fun i => ⟨envL [(0, .sl (hdl G)), (1, .int .u32 (d : Int)), (2, .int .i64 id), (7, .own 0), (8, .int .i64 (i : Int))], [] ++ [Ob.row 62 4 (hdl (withoutG (G.take i) (d, id)))]⟩) (fun i => G.length - i) 0 (Nat.zero_le _) ?_ ?_
 ·exact weak_nl [] (l1 := [(0, .sl (hdl G)), (1, .int .u32 (d : Int)), (2, .int .i64 id), (7, .nils), (8, .int .i64 0)]) (H1 := []) 62 4 (by decide) rfl rfl rfl ⟨rfl, rfl, rfl, rfl, rfl, trivial⟩ ⟨.inl rfl, .inl rfl, .inl rfl, .inr ⟨rfl, rfl⟩, .inl rfl, trivial⟩ trivial
 intro i hi
 have hwl : (hdl (withoutG (G.take i) (d, id))).length ≤ G.length := by rw [hdl_len]; exact filt_len _ _ _
 by_cases hlt : i < G.length
 ·have hx := List.getElem?_eq_getElem hlt
  have hst : withoutG (G.take (i + 1)) (d, id) = _ := filt_step (fun h => !decide (keyH h = (d, id))) hx
  generalize G[i] = h at *
  have hg := hdl_get2 hx
  have hyes : h.dom = d → h.t.id = id → withoutG (G.take (i + 1)) (d, id) = withoutG (G.take i) (d, id) := fun h1 h2 => by
   rw [hst, show keyH h = (d, id) by unfold keyH; rw [h1, h2]]
   simp [withoutG]
  have hno : (h.dom ≠ d ∨ h.t.id ≠ id) → hdl (withoutG (G.take (i + 1)) (d, id)) = hdl (withoutG (G.take i) (d, id)) ++ [hdc h] := fun h1 => by
   rw [hst, decide_eq_false (fun h2 => by
    unfold keyH at h2
    simp only [Prod.mk.injEq] at h2
    omega)]
   exact hdl_app _ _
  (conv => whnf); (repeat' ((with_reducible first | refine Box.mk ?_ | refine And.intro (fun _ => ?_) (fun _ => ?_) | fail) <;> conv => whnf))
  rotate_left
  ·exfalso; rename_i h; have h : ¬ (i : Int) < ((hdl G).length : Int) := h; omega
  refine ⟨by omega, hdc h, hg, rfl, ?_⟩
  (conv => whnf); (repeat' ((with_reducible first | refine Box.mk ?_ | refine And.intro (fun _ => ?_) (fun _ => ?_) | fail) <;> conv => whnf))
  ·refine ⟨by omega, hdc h, hg, rfl, ?_⟩
   (conv => whnf); (repeat' ((with_reducible first | refine Box.mk ?_ | refine And.intro (fun _ => ?_) (fun _ => ?_) | fail) <;> conv => whnf))
   ·refine ⟨i + 1, hlt, by omega, weak_ren_to [(0, true)] rfl rfl ?_ ⟨rfl, rfl, rfl, rfl, wrap_nat (m := 1) (by omega), trivial⟩⟩
    rw [hyes (by omega) (by omega)]; rfl
   ·refine ⟨by omega, hdc h, hg, rfl, ?_⟩
    (conv => whnf); repeat' ((with_reducible refine Box.mk ?_) <;> conv => whnf)
    refine ⟨fun c hc => by rw [List.mem_singleton.1 hc]; exact ⟨rfl, rfl⟩, by show (_ + 1) * 48 ≤ _; omega, by show _ + 1 ≤ _; omega, ?_⟩
    (conv => whnf); repeat' ((with_reducible refine Box.mk ?_) <;> conv => whnf)
    refine ⟨i + 1, hlt, by omega, weak_ren_to [(2, true)] rfl rfl ?_ ⟨rfl, rfl, rfl, rfl, wrap_nat (m := 1) (by omega), trivial⟩⟩
    rw [hno (by omega)]; rfl
  ·refine ⟨by omega, hdc h, hg, rfl, ?_⟩
   (conv => whnf); repeat' ((with_reducible refine Box.mk ?_) <;> conv => whnf)
   refine ⟨fun c hc => by rw [List.mem_singleton.1 hc]; exact ⟨rfl, rfl⟩, by show (_ + 1) * 48 ≤ _; omega, by show _ + 1 ≤ _; omega, ?_⟩
   (conv => whnf); repeat' ((with_reducible refine Box.mk ?_) <;> conv => whnf)
   refine ⟨i + 1, hlt, by omega, weak_ren_to [(2, true)] rfl rfl ?_ ⟨rfl, rfl, rfl, rfl, wrap_nat (m := 1) (by omega), trivial⟩⟩
   rw [hno (by omega)]; rfl
 ·have : i = G.length := by omega
  subst this
  rw [List.take_length]
  (conv => whnf); (repeat' ((with_reducible first | refine Box.mk ?_ | refine And.intro (fun _ => ?_) (fun _ => ?_) | fail) <;> conv => whnf))
  ·exfalso; rename_i h; have h : ((G.length : Nat) : Int) < ((hdl G).length : Int) := h; omega
  rfl
theorem r16DropAll_ok (G : List Hd) (d : Nat) (opt : Bool) (hl : G.length ≤ 100000000) : PCall P 77 [.sl (hdl G), .int .u32 (d : Int), .bool opt] (.sl (hdl (dropAllG G d opt))) := by
 have hgl := hdl_len G
 refine PCall.of_awp tok mixed fn77 (Nat.le_of_ble_eq_true rfl) ?_
 (conv => whnf); repeat' ((with_reducible refine Box.mk ?_) <;> conv => whnf)
 refine aloop (fun i : Nat => i ≤ G.length) (fun i => ⟨envL [(0, .sl (hdl G)), (1, .int .u32 (d : Int)), (2, .bool opt), (7, .own 0), (8, .int .i64 (i : Int))], [] ++ [Ob.row 62 4 (hdl (dropAllG (G.take i) d opt))]⟩) (fun i => G.length - i) 0 (Nat.zero_le _) ?_ ?_
 ·exact weak_nl [] (l1 := [(0, .sl (hdl G)), (1, .int .u32 (d : Int)), (2, .bool opt), (7, .nils), (8, .int .i64 0)]) (H1 := []) 62 4 (by decide) rfl rfl rfl ⟨rfl, rfl, rfl, rfl, rfl, trivial⟩ ⟨.inl rfl, .inl rfl, .inl rfl, .inr ⟨rfl, rfl⟩, .inl rfl, trivial⟩ trivial
 intro i hi
 have hwl : (hdl (dropAllG (G.take i) d opt)).length ≤ G.length := by rw [hdl_len]; exact filt_len _ _ _
 by_cases hlt : i < G.length
 ·have hx := List.getElem?_eq_getElem hlt
  have hst : dropAllG (G.take (i + 1)) d opt = _ := filt_step (fun h => !ofKind d opt h) hx
  generalize G[i] = h at *
  have hg := hdl_get2 hx
  cases opt
  ·have hyes : h.dom = d → (¬ 0 < h.t.scope) → dropAllG (G.take (i + 1)) d false = dropAllG (G.take i) d false := fun h1 h2 => by
    rw [hst]
    have : ofKind d false h = true := by unfold ofKind; rw [decide_eq_true h1, decide_eq_false h2]; rfl
    rw [this]
    simp [dropAllG]
   have hno : (h.dom ≠ d ∨ 0 < h.t.scope) → hdl (dropAllG (G.take (i + 1)) d false) = hdl (dropAllG (G.take i) d false) ++ [hdc h] := fun h1 => by
    rw [hst]
    have : ofKind d false h = false := by
     unfold ofKind
     rcases h1 with h1 | h1
     ·rw [decide_eq_false h1]; rfl
     ·rw [decide_eq_true h1]; exact Bool.and_false _
    rw [this]
    exact hdl_app _ _
   (conv => whnf); (repeat' ((with_reducible first | refine Box.mk ?_ | refine And.intro (fun _ => ?_) (fun _ => ?_) | fail) <;> conv => whnf))
   rotate_left
   ·exfalso; rename_i h; have h : ¬ (i : Int) < ((hdl G).length : Int) := h; omega
   refine ⟨by omega, hdc h, hg, rfl, ?_⟩
   (conv => whnf); (repeat' ((with_reducible first | refine Box.mk ?_ | refine And.intro (fun _ => ?_) (fun _ => ?_) | fail) <;> conv => whnf))
   ·refine ⟨by omega, hdc h, hg, rfl, ?_⟩
    (conv => whnf); (repeat' ((with_reducible first | refine Box.mk ?_ | refine And.intro (fun _ => ?_) (fun _ => ?_) | fail) <;> conv => whnf))
    all_goals try (exfalso; rename_i hx; first | exact Bool.noConfusion hx | exact hx rfl)
    ·refine ⟨by omega, hdc h, hg, rfl, ?_⟩
     (conv => whnf); repeat' ((with_reducible refine Box.mk ?_) <;> conv => whnf)
     refine ⟨fun c hc => by rw [List.mem_singleton.1 hc]; exact ⟨rfl, rfl⟩, by show (_ + 1) * 48 ≤ _; omega, by show _ + 1 ≤ _; omega, ?_⟩
     (conv => whnf); repeat' ((with_reducible refine Box.mk ?_) <;> conv => whnf)
     refine ⟨i + 1, hlt, by omega, weak_ren_to [(2, true)] rfl rfl ?_ ⟨rfl, rfl, rfl, rfl, wrap_nat (m := 1) (by omega), trivial⟩⟩
     rw [hno (by omega)]; rfl
    ·refine ⟨i + 1, hlt, by omega, weak_ren_to [(0, true)] rfl rfl ?_ ⟨rfl, rfl, rfl, rfl, wrap_nat (m := 1) (by omega), trivial⟩⟩
     rw [hyes (by omega) (by omega)]; rfl
   ·refine ⟨by omega, hdc h, hg, rfl, ?_⟩
    (conv => whnf); repeat' ((with_reducible refine Box.mk ?_) <;> conv => whnf)
    refine ⟨fun c hc => by rw [List.mem_singleton.1 hc]; exact ⟨rfl, rfl⟩, by show (_ + 1) * 48 ≤ _; omega, by show _ + 1 ≤ _; omega, ?_⟩
    (conv => whnf); repeat' ((with_reducible refine Box.mk ?_) <;> conv => whnf)
    refine ⟨i + 1, hlt, by omega, weak_ren_to [(2, true)] rfl rfl ?_ ⟨rfl, rfl, rfl, rfl, wrap_nat (m := 1) (by omega), trivial⟩⟩
    rw [hno (by omega)]; rfl
  ·have hyes : h.dom = d → (0 < h.t.scope) → dropAllG (G.take (i + 1)) d true = dropAllG (G.take i) d true := fun h1 h2 => by
    rw [hst]
    have : ofKind d true h = true := by unfold ofKind; rw [decide_eq_true h1, decide_eq_true h2]; rfl
    rw [this]
    simp [dropAllG]
   have hno : (h.dom ≠ d ∨ ¬ 0 < h.t.scope) → hdl (dropAllG (G.take (i + 1)) d true) = hdl (dropAllG (G.take i) d true) ++ [hdc h] := fun h1 => by
    rw [hst]
    have : ofKind d true h = false := by
     unfold ofKind
     rcases h1 with h1 | h1
     ·rw [decide_eq_false h1]; rfl
     ·rw [decide_eq_false h1]; exact Bool.and_false _
    rw [this]
    exact hdl_app _ _
   (conv => whnf); (repeat' ((with_reducible first | refine Box.mk ?_ | refine And.intro (fun _ => ?_) (fun _ => ?_) | fail) <;> conv => whnf))
   rotate_left
   ·exfalso; rename_i h; have h : ¬ (i : Int) < ((hdl G).length : Int) := h; omega
   refine ⟨by omega, hdc h, hg, rfl, ?_⟩
   (conv => whnf); (repeat' ((with_reducible first | refine Box.mk ?_ | refine And.intro (fun _ => ?_) (fun _ => ?_) | fail) <;> conv => whnf))
   ·refine ⟨by omega, hdc h, hg, rfl, ?_⟩
    (conv => whnf); (repeat' ((with_reducible first | refine Box.mk ?_ | refine And.intro (fun _ => ?_) (fun _ => ?_) | fail) <;> conv => whnf))
    all_goals try (exfalso; rename_i hx; first | exact Bool.noConfusion hx | exact hx rfl)
    ·refine ⟨i + 1, hlt, by omega, weak_ren_to [(0, true)] rfl rfl ?_ ⟨rfl, rfl, rfl, rfl, wrap_nat (m := 1) (by omega), trivial⟩⟩
     rw [hyes (by omega) (by omega)]; rfl
    ·refine ⟨by omega, hdc h, hg, rfl, ?_⟩
     (conv => whnf); repeat' ((with_reducible refine Box.mk ?_) <;> conv => whnf)
     refine ⟨fun c hc => by rw [List.mem_singleton.1 hc]; exact ⟨rfl, rfl⟩, by show (_ + 1) * 48 ≤ _; omega, by show _ + 1 ≤ _; omega, ?_⟩
     (conv => whnf); repeat' ((with_reducible refine Box.mk ?_) <;> conv => whnf)
     refine ⟨i + 1, hlt, by omega, weak_ren_to [(2, true)] rfl rfl ?_ ⟨rfl, rfl, rfl, rfl, wrap_nat (m := 1) (by omega), trivial⟩⟩
     rw [hno (by omega)]; rfl
   ·refine ⟨by omega, hdc h, hg, rfl, ?_⟩
    (conv => whnf); repeat' ((with_reducible refine Box.mk ?_) <;> conv => whnf)
    refine ⟨fun c hc => by rw [List.mem_singleton.1 hc]; exact ⟨rfl, rfl⟩, by show (_ + 1) * 48 ≤ _; omega, by show _ + 1 ≤ _; omega, ?_⟩
    (conv => whnf); repeat' ((with_reducible refine Box.mk ?_) <;> conv => whnf)
    refine ⟨i + 1, hlt, by omega, weak_ren_to [(2, true)] rfl rfl ?_ ⟨rfl, rfl, rfl, rfl, wrap_nat (m := 1) (by omega), trivial⟩⟩
    rw [hno (by omega)]; rfl
 ·have : i = G.length := by omega
  subst this
  rw [List.take_length]
  (conv => whnf); (repeat' ((with_reducible first | refine Box.mk ?_ | refine And.intro (fun _ => ?_) (fun _ => ?_) | fail) <;> conv => whnf))
  ·exfalso; rename_i h; have h : ((G.length : Nat) : Int) < ((hdl G).length : Int) := h; omega
  rfl

theorem PCall.rnil {f : FuncId} {args : List AV} {r : AV} (h : PCall P f args r) : PCall P f args (mpV nlN r) := by
 unfold PCall at *
 refine ⟨h.1, fun M0 w vs h1 h2 hv => Calls.mono (h.2 M0 w vs h1 h2 hv) fun e w' he => ?_⟩
 obtain ⟨v, rfl, h3, h4⟩ := he
 exact ⟨v, rfl, h3, mpV_rv (fun x v hx => nlN_rv (fun _ _ h => h) hx) h4⟩
theorem cut_at {α : Type} {p : α → Bool} : ∀ {l : List α} {i : Nat}, i ≤ l.length → (∀ j y, j < i → l[j]? = some y → p y = true) → (∀ y, l[i]? = some y → p y = false) → l.takeWhile p = l.take i ∧ l.dropWhile p = l.drop i
 | [], i, h, _, _ => by simp
 | x :: r, 0, _, _, h2 => by
  have := h2 x rfl
  simp [this]
 | x :: r, i + 1, h, h1, h2 => by
  have h0 := h1 0 x (by omega) rfl
  obtain ⟨k1, k2⟩ := cut_at (l := r) (i := i) (p := p) (by simpa using h) (fun j y hj hy => h1 (j + 1) y (by omega) (by simpa using hy)) (fun y hy => h2 y (by simpa using hy))
  simp [h0, k1, k2]
theorem insG_at {h : Hd} {R : List Hd} {i : Nat} (hi : i ≤ R.length) (h1 : ∀ j y, j < i → R[j]? = some y → aheadG y h.dom h.t.id = true) (h2 : ∀ y, R[i]? = some y → aheadG y h.dom h.t.id = false) : hdl (R.take i) ++ [hdc h] ++ hdl (R.drop i) = hdl (insG h R) := by
 have e : (fun g => decide (cmpHd g h < 0)) = fun g => aheadG g h.dom h.t.id := by
  funext g
  unfold aheadG
  exact decide_eq_decide.2 (cmpHd_neg g h)
 unfold insG
 rw [e]
 obtain ⟨k1, k2⟩ := cut_at (p := fun g => aheadG g h.dom h.t.id) hi h1 h2
 rw [k1, k2, List.append_assoc, hdl_app]
 rfl
def cdr16 : Code → Code
 | .seq _ y => y
 | c => c
noncomputable def set16C : Code := cdr16 (cdr16 (cdr16 (cdr16 (Tryz.f53.body.getD .skip))))
theorem set16_tail (G : List Hd) (d : Nat) (t : Tm) (hl : G.length ≤ 100000000) :
  Sound P Tryz.f53.ntmps none 0 set16C (PPost ty Tryz.f53.results.toList (.tup [.sl (hdl (insG ⟨d, t⟩ (withoutG G (d, t.id)))), .int .i64 0])) ⟨envL [(0, .sl (hdl G)), (1, .int .u32 (d : Int)), (5, .ptr 0 0)], [.box 58 (tcs t)]⟩ := by
 have q3 := r16Without_ok G d t.id hl
 have hRl : (withoutG G (d, t.id)).length ≤ 100000000 := Nat.le_trans (List.length_filter_le _ _) hl
 generalize withoutG G (d, t.id) = R at *
 have hrl := hdl_len R
 refine Sound.awp tok mixed ?_
 (conv => whnf); (repeat' ((first | (with_reducible refine Box.mk ?_) | ((with_reducible show ACall _ _ _ _ _); refine ACall.of_pure (by assumption) (by rfl) ?_) | fail) <;> conv => whnf))
 refine aloop (fun i : Nat => i ≤ R.length ∧ ∀ j y, j < i → R[j]? = some y → aheadG y d t.id = true) (fun i => ⟨envL [(1, .int .u32 (d : Int)), (5, .ptr 0 0), (10, .own 1), (11, .sl (hdl R)), (12, .int .i64 (i : Int))], [.box 58 (tcs t)] ++ [Ob.row 62 4 (hdl (R.take i))]⟩) (fun i => R.length - i) 0 ⟨Nat.zero_le _, fun j y h => by omega⟩ ?_ ?_
 ·exact weak_nl [(0, true)] (l1 := [(1, .int .u32 (d : Int)), (5, .ptr 0 0), (10, .nils), (11, .sl (hdl R)), (12, .int .i64 0)]) (H1 := [.box 58 (tcs t)]) 62 4 (by decide) rfl rfl rfl ⟨rfl, rfl, rfl, rfl, rfl, trivial⟩ ⟨.inl rfl, .inl rfl, .inr ⟨rfl, rfl⟩, .inl rfl, .inl rfl, trivial⟩ ⟨.inl rfl, trivial⟩
 rintro i ⟨hi, hlo⟩
 have htl : (hdl (R.take i)).length = i := by rw [hdl_len, List.length_take]; omega
 by_cases hlt : i < R.length
 ·have hx := List.getElem?_eq_getElem hlt
  have hst : hdl (R.take (i + 1)) = hdl (R.take i) ++ [hdc R[i]] := by rw [List.take_add_one, hx, hdl_snoc]; rfl
  have hlo2 : aheadG R[i] d t.id = true → ∀ j y, j < i + 1 → R[j]? = some y → aheadG y d t.id = true := fun hc j y hj hy => by
   rcases Nat.lt_or_ge j i with h | h
   ·exact hlo j y h hy
   ·have : j = i := by omega
    subst this
    rw [hx] at hy
    rw [← Option.some.inj hy]; exact hc
  have hfin : aheadG R[i] d t.id = false → hdl (R.take i) ++ [hdc ⟨d, t⟩] ++ hdl (R.drop i) = hdl (insG ⟨d, t⟩ R) := fun hc => insG_at hi hlo fun y hy => by
   rw [hx] at hy
   rw [← Option.some.inj hy]; exact hc
  generalize R[i] = y at *
  have hg := hdl_get2 hx
  have q := r16Ahead_ok y d t.id
  generalize aheadG y d t.id = b at *
  cases b
  ·(conv => whnf); (repeat' ((with_reducible first | refine Box.mk ?_ | refine And.intro (fun _ => ?_) (fun _ => ?_) | refine (forceH_eq _ _).mpr ?_ | fail) <;> conv => whnf))
   refine ⟨[], by kernel_rfl, ?_⟩
   (conv => whnf); (repeat' ((first | (with_reducible first | refine Box.mk ?_ | refine And.intro (fun _ => ?_) (fun _ => ?_) | fail) | ((with_reducible show _ ∧ _ ∧ _); refine ⟨by omega, by omega, ?_⟩) | fail) <;> conv => whnf))
   rotate_left
   ·exfalso; rename_i h; have h : ¬ (i : Int) < ((hdl R).length : Int) := h; omega
   refine ⟨by omega, hdc y, hg, rfl, ?_⟩
   (conv => whnf); (repeat' ((first | (with_reducible refine Box.mk ?_) | ((with_reducible show Exists _); refine ⟨_, ACall.of_pure (by assumption) (by rfl) ⟨rfl, rfl⟩, ?_⟩) | fail) <;> conv => whnf))
   refine ⟨fun c hc => by rw [List.mem_singleton.1 hc]; exact ⟨rfl, rfl⟩, by rw [htl]; show (_ + 1) * 48 ≤ _; omega, by rw [htl]; show _ + 1 ≤ _; omega, ?_⟩
   (conv => whnf); (repeat' ((first | (with_reducible refine Box.mk ?_) | ((with_reducible show _ ∧ _ ∧ _); refine ⟨by omega, by omega, ?_⟩) | fail) <;> conv => whnf))
   refine ⟨hdl_all R, ?_⟩
   (conv => whnf); repeat' ((with_reducible refine Box.mk ?_) <;> conv => whnf)
   rw [hdl_cut]
   refine ⟨hdl_cells _, by rw [List.length_append, htl, hdl_len, List.length_drop]; show (i + 1 + _) * 48 ≤ _; omega, by rw [List.length_append, htl, hdl_len, List.length_drop]; show i + 1 + _ ≤ _; omega, ?_⟩
   (conv => whnf); repeat' ((with_reducible refine Box.mk ?_) <;> conv => whnf)
   exact congrArg (fun x => AV.tup [.sl x, .int .i64 0]) (hfin rfl)
  ·(conv => whnf); (repeat' ((with_reducible first | refine Box.mk ?_ | refine And.intro (fun _ => ?_) (fun _ => ?_) | refine (forceH_eq _ _).mpr ?_ | fail) <;> conv => whnf))
   refine ⟨[], by kernel_rfl, ?_⟩
   (conv => whnf); (repeat' ((first | (with_reducible first | refine Box.mk ?_ | refine And.intro (fun _ => ?_) (fun _ => ?_) | fail) | ((with_reducible show _ ∧ _ ∧ _); refine ⟨by omega, by omega, ?_⟩) | fail) <;> conv => whnf))
   rotate_left
   ·exfalso; rename_i h; have h : ¬ (i : Int) < ((hdl R).length : Int) := h; omega
   refine ⟨by omega, hdc y, hg, rfl, ?_⟩
   (conv => whnf); (repeat' ((first | (with_reducible refine Box.mk ?_) | ((with_reducible show Exists _); refine ⟨_, ACall.of_pure (by assumption) (by rfl) ⟨rfl, rfl⟩, ?_⟩) | fail) <;> conv => whnf))
   refine ⟨by omega, hdc y, hg, rfl, ?_⟩
   (conv => whnf); repeat' ((with_reducible refine Box.mk ?_) <;> conv => whnf)
   refine ⟨fun c hc => by rw [List.mem_singleton.1 hc]; exact ⟨rfl, rfl⟩, by rw [htl]; show (_ + 1) * 48 ≤ _; omega, by rw [htl]; show _ + 1 ≤ _; omega, ?_⟩
   (conv => whnf); repeat' ((with_reducible refine Box.mk ?_) <;> conv => whnf)
   refine ⟨i + 1, ⟨hlt, hlo2 rfl⟩, by omega, weak_ren_to [(0, true), (3, true)] rfl rfl ?_ ⟨rfl, rfl, rfl, rfl, wrap_nat (m := 1) (by omega), trivial⟩⟩
   rw [hst]; rfl
 ·have : i = R.length := by omega
  subst this
  have hfin : hdl (R.take R.length) ++ [hdc ⟨d, t⟩] ++ hdl (R.drop R.length) = hdl (insG ⟨d, t⟩ R) := insG_at hi hlo fun y hy => by simp at hy
  (conv => whnf); (repeat' ((with_reducible first | refine Box.mk ?_ | refine And.intro (fun _ => ?_) (fun _ => ?_) | refine (forceH_eq _ _).mpr ?_ | fail) <;> conv => whnf))
  refine ⟨[], by kernel_rfl, ?_⟩
  (conv => whnf); (repeat' ((with_reducible first | refine Box.mk ?_ | refine And.intro (fun _ => ?_) (fun _ => ?_) | fail) <;> conv => whnf))
  ·exfalso; rename_i h; have h : ((R.length : Nat) : Int) < ((hdl R).length : Int) := h; omega
  refine ⟨fun c hc => by rw [List.mem_singleton.1 hc]; exact ⟨rfl, rfl⟩, by rw [htl]; show (_ + 1) * 48 ≤ _; omega, by rw [htl]; show _ + 1 ≤ _; omega, ?_⟩
  (conv => whnf); (repeat' ((first | (with_reducible refine Box.mk ?_) | ((with_reducible show _ ∧ _ ∧ _); refine ⟨by omega, by omega, ?_⟩) | fail) <;> conv => whnf))
  refine ⟨hdl_all R, ?_⟩
  (conv => whnf); repeat' ((with_reducible refine Box.mk ?_) <;> conv => whnf)
  rw [hdl_cut]
  refine ⟨hdl_cells _, by rw [List.length_append, htl, hdl_len, List.length_drop]; show (R.length + 1 + _) * 48 ≤ _; omega, by rw [List.length_append, htl, hdl_len, List.length_drop]; show R.length + 1 + _ ≤ _; omega, ?_⟩
  (conv => whnf); repeat' ((with_reducible refine Box.mk ?_) <;> conv => whnf)
  exact congrArg (fun x => AV.tup [.sl x, .int .i64 0]) hfin
end Go.Proofs.YtnajpmepcffnaaaGreatDoor
end

section
/- A contract over the caller's objects, walked in parts. -/
namespace Go.Ve
open Go

variable {P : Program} {T : TT} {n : Nat}
theorem ACall.of_sound [Dr] (hT : TOk P T) (hm : P.follows .mixedOrders = true) {f : FuncId} {c : Code} {rs : List ResultVar} (hf : FnIs P f n c rs) {args : List AV} (hn : args.length ≤ n) {H : Hp} {K : KV}
  (h : Sound P n none H.length c (FPost T rs fun vs H' => K (mkRes vs) H') ⟨env0 args, H⟩) : ACall P f args H K := by
 unfold ACall
 refine ⟨hf.callable, fun M0 σ w vs hs hv => Calls.mono (calls_of_sound hT hm hf hn h hs hv) fun e w' he => ?_⟩
 obtain ⟨xs, us, H', σ', rfl, k1, k2, k3, k4⟩ := he
 exact ⟨_, _, H', σ', rfl, k3, k4, mk_run k2, k1⟩
theorem DCall.of_sound [Dr] (hT : TOk P T) (hm : P.follows .mixedOrders = true) {f : FuncId} {c : Code} {rs : List ResultVar} (hf : FnIs P f n c rs) {args : List AV} (hn : args.length ≤ n) {H H0 : Hp} {r0 : AV}
  (h : Sound P n none H.length c (FPost T rs fun vs H' => Weak H.length ⟨envL [(0, mkRes vs)], H'⟩ ⟨envL [(0, r0)], H0⟩) ⟨env0 args, H⟩) : DCall P f args H r0 H0 :=
 (ACall.of_sound (K := fun r H' => Weak H.length ⟨envL [(0, r)], H'⟩ ⟨envL [(0, r0)], H0⟩) hT hm hf hn h).post fun _ _ h => ⟨_, _, h, rfl, rfl⟩
end Go.Ve
end

section
/- The document's messages: withdrawing; templates. -/
namespace Go.Proofs.YtnajpmepcffnaaaGreatDoor
open Go.Ve
attribute [local irreducible] Sound

def stO (d : Rd (List Hd)) (k : Nat) : List AV := [.sl (hdl d.c), .int .u32 (d.time : Int), .int .u32 (d.seq : Int), .int .u32 (d.dom : Int), .int .i64 (d.lost : Int), .int .i64 (d.idle : Int), .own k]
def rwO (d : Rd (List Hd)) : Ob := .row 55 22 (rcl d.out)
def zst : List AV := [.nils, .int .u32 0, .int .u32 0, .int .u32 0, .int .i64 0, .int .i64 0, .nils]
theorem r17Withdraw_ok (d : Rd (List Hd)) (hl : d.c.length ≤ 100000000) (opt : Bool) (id : Nat) : DCall P 50 [.agg (stO d 0), .bool opt, .int .i64 (id : Int)] [rwO d] (.tup [.agg (stO { d with c := (withdrawF opG d.c d.dom opt id).1 } 0), .int .i64 (withdrawF opG d.c d.dom opt id).2]) [rwO d] := by
 have q1 := r16DropAll_ok d.c d.dom opt hl
 have q2 := r16Without_ok d.c d.dom (id : Int) hl
 unfold withdrawF
 by_cases h1 : id = (bif opt then 3 else 2)
 ·rw [if_pos h1]
  show DCall P _ _ _ (.tup [.agg (stO { d with c := dropAllG d.c d.dom opt } 0), .int .i64 0]) _
  generalize dropAllG d.c d.dom opt = G at *
  cases opt
  ·have h1 : id = 2 := h1
   refine DCall.of_awp tok mixed fn50 (Nat.le_of_ble_eq_true rfl) ?_
   (conv => whnf); (repeat' ((first | (with_reducible first | refine Box.mk ?_ | refine And.intro (fun _ => ?_) (fun _ => ?_) | fail) | ((with_reducible show ACall _ _ _ _ _); refine ACall.of_pure (by assumption) (by rfl) ?_) | fail) <;> conv => whnf))
   all_goals first
    | (exfalso; omega)
    | exact weak_ren_to [(0, true)] rfl rfl rfl ⟨rfl, trivial⟩
  ·have h1 : id = 3 := h1
   refine DCall.of_awp tok mixed fn50 (Nat.le_of_ble_eq_true rfl) ?_
   (conv => whnf); (repeat' ((first | (with_reducible first | refine Box.mk ?_ | refine And.intro (fun _ => ?_) (fun _ => ?_) | fail) | ((with_reducible show ACall _ _ _ _ _); refine ACall.of_pure (by assumption) (by rfl) ?_) | fail) <;> conv => whnf))
   all_goals first
    | (exfalso; omega)
    | exact weak_ren_to [(0, true)] rfl rfl rfl ⟨rfl, trivial⟩
 ·rw [if_neg h1]
  have hw : withoutG d.c (d.dom, (id : Int)) = opG.drop d.c (d.dom, (id : Int)) := rfl
  by_cases h2 : id < 256
  ·rw [if_pos h2]
   cases opt
   ·have h1 : ¬ id = 2 := h1
    refine DCall.of_awp tok mixed fn50 (Nat.le_of_ble_eq_true rfl) ?_
    (conv => whnf); (repeat' ((first | (with_reducible first | refine Box.mk ?_ | refine And.intro (fun _ => ?_) (fun _ => ?_) | fail) | ((with_reducible show ACall _ _ _ _ _); refine ACall.of_pure (by assumption) (by rfl) ?_) | fail) <;> conv => whnf))
    all_goals first
     | (exfalso; omega)
     | exact weak_ren_to [(0, true)] rfl rfl rfl ⟨rfl, trivial⟩
   ·have h1 : ¬ id = 3 := h1
    refine DCall.of_awp tok mixed fn50 (Nat.le_of_ble_eq_true rfl) ?_
    (conv => whnf); (repeat' ((first | (with_reducible first | refine Box.mk ?_ | refine And.intro (fun _ => ?_) (fun _ => ?_) | fail) | ((with_reducible show ACall _ _ _ _ _); refine ACall.of_pure (by assumption) (by rfl) ?_) | fail) <;> conv => whnf))
    all_goals first
     | (exfalso; omega)
     | exact weak_ren_to [(0, true)] rfl rfl rfl ⟨rfl, trivial⟩
  ·rw [if_neg h2]
   show DCall P _ _ _ (.tup [.agg (stO { d with c := withoutG d.c (d.dom, (id : Int)) } 0), .int .i64 0]) _
   generalize withoutG d.c (d.dom, (id : Int)) = G at *
   cases opt
   ·have h1 : ¬ id = 2 := h1
    refine DCall.of_awp tok mixed fn50 (Nat.le_of_ble_eq_true rfl) ?_
    (conv => whnf); (repeat' ((first | (with_reducible first | refine Box.mk ?_ | refine And.intro (fun _ => ?_) (fun _ => ?_) | fail) | ((with_reducible show ACall _ _ _ _ _); refine ACall.of_pure (by assumption) (by rfl) ?_) | fail) <;> conv => whnf))
    all_goals first
     | (exfalso; omega)
     | exact weak_ren_to [(0, true)] rfl rfl rfl ⟨rfl, trivial⟩
   ·have h1 : ¬ id = 3 := h1
    refine DCall.of_awp tok mixed fn50 (Nat.le_of_ble_eq_true rfl) ?_
    (conv => whnf); (repeat' ((first | (with_reducible first | refine Box.mk ?_ | refine And.intro (fun _ => ?_) (fun _ => ?_) | fail) | ((with_reducible show ACall _ _ _ _ _); refine ACall.of_pure (by assumption) (by rfl) ?_) | fail) <;> conv => whnf))
    all_goals first
     | (exfalso; omega)
     | exact weak_ren_to [(0, true)] rfl rfl rfl ⟨rfl, trivial⟩
theorem xnum2 {pre bs : Bs} (h : 2 ≤ bs.length) (hl : (pre ++ bs).length ≤ 1000000000) : DCall P 48 [.ptr 0 0, .int .i64 2] (xH pre bs 0) (.int .u64 (valB (bs.take 2) : Nat)) (xH (pre ++ bs.take 2) (bs.drop 2) 0) := by
 have := xrNum_ok pre bs 0 2 hl
 rwa [show ((szN 2 : Nat) : Int) = ((2 : Nat) : Int) from rfl, rawF_yes h] at this
theorem insG_len (h : Hd) (l : List Hd) : (insG h l).length = l.length + 1 := by
 unfold insG
 rw [List.length_append, List.length_cons]
 have := congrArg List.length (List.takeWhile_append_dropWhile (p := fun g => decide (cmpHd g h < 0)) (l := l))
 rw [List.length_append] at this
 omega
theorem setG_len {G : List Hd} (hG : G.length ≤ 64) (h : Hd) : (setG G h).length ≤ 64 := by
 unfold setG
 split
 ·rename_i h0
  rw [insG_len]
  unfold setGErr at h0
  split at h0
  ·cases h0
  ·split at h0
   ·cases h0
   ·rename_i h1
    cases hf : findG G (keyH h) with
    | none =>
     have : (withoutG G (keyH h)).length ≤ G.length := List.length_filter_le _ _
     have : ¬ 64 ≤ G.length := fun hc => h1 ⟨hf, hc⟩
     omega
    | some x =>
     have : (withoutG G (keyH h)).length < G.length := by
      unfold findG at hf
      have h2 := List.find?_some hf
      have h3 := List.mem_of_find?_eq_some hf
      unfold withoutG
      refine List.length_filter_lt_length_iff_exists.2 ⟨x, h3, ?_⟩
      simpa using h2
     omega
 ·exact hG
theorem withdrawG_len {G : List Hd} (hG : G.length ≤ 64) (d : Nat) (opt : Bool) (id : Nat) : (withdrawF opG G d opt id).1.length ≤ 64 := by
 unfold withdrawF
 split
 ·exact Nat.le_trans (List.length_filter_le _ _) hG
 ·split
  ·exact hG
  ·exact Nat.le_trans (List.length_filter_le _ _) hG
theorem r16Set_ok (G : List Hd) (d : Nat) (t : Tm) (hl : G.length ≤ 100000000) (hf : t.fields.length ≤ 1000000000) : PCall P 53 [.sl (hdl G), .int .u32 (d : Int), tv t] (.tup [.sl (hdl (setG G ⟨d, t⟩)), .int .i64 (setGErr G ⟨d, t⟩)]) := by
 have q1 := r16Right_ok t hf
 have q2 := PCall.rnil (r16Find_ok G d t.id (by omega))
 have hgl := hdl_len G
 have hk : keyH (⟨d, t⟩ : Hd) = (d, t.id) := rfl
 cases hr : rightT t
 ·have e1 : setGErr G ⟨d, t⟩ = 3 := by unfold setGErr; rw [hr, if_pos rfl]
  have e2 : setG G ⟨d, t⟩ = G := by unfold setG; rw [e1, if_neg (by decide)]
  rw [e1, e2]
  rw [hr] at q1
  refine PCall.of_sound tok mixed fn53 (Nat.le_of_ble_eq_true rfl) ?_
  refine Sound.seq tok mixed ?_
  (conv => whnf); repeat' ((with_reducible refine Box.mk ?_) <;> conv => whnf)
  refine Sound.seq tok mixed ?_
  (conv => whnf); (repeat' ((first | (with_reducible refine Box.mk ?_) | ((with_reducible show ACall _ _ _ _ _); refine ACall.of_pure (by assumption) (by rfl) ?_) | fail) <;> conv => whnf))
  rfl
 ·rw [hr] at q1
  cases hfd : findG G (d, t.id) with
  | none =>
   rw [hfd] at q2
   have q2 : PCall P _ _ (.tup [.agg [.int .i64 0, .int .i64 0, .sl []], .bool false]) := q2
   by_cases h64 : 64 ≤ G.length
   ·have e1 : setGErr G ⟨d, t⟩ = 5 := by unfold setGErr; rw [hr, if_neg (by decide), hk, if_pos ⟨hfd, h64⟩]
    have e2 : setG G ⟨d, t⟩ = G := by unfold setG; rw [e1, if_neg (by decide)]
    rw [e1, e2]
    refine PCall.of_sound tok mixed fn53 (Nat.le_of_ble_eq_true rfl) ?_
    refine Sound.seq tok mixed ?_
    (conv => whnf); repeat' ((with_reducible refine Box.mk ?_) <;> conv => whnf)
    refine Sound.seq tok mixed ?_
    (conv => whnf); (repeat' ((first | (with_reducible refine Box.mk ?_) | ((with_reducible show ACall _ _ _ _ _); refine ACall.of_pure (by assumption) (by rfl) ?_) | fail) <;> conv => whnf))
    refine Sound.seq tok mixed ?_
    (conv => whnf); (repeat' ((first | (with_reducible refine Box.mk ?_) | ((with_reducible show ACall _ _ _ _ _); refine ACall.of_pure (by assumption) (by rfl) ?_) | fail) <;> conv => whnf))
    refine Sound.seq tok mixed ?_
    (conv => whnf); (repeat' ((with_reducible first | refine Box.mk ?_ | refine And.intro (fun _ => ?_) (fun _ => ?_) | fail) <;> conv => whnf))
    all_goals first
     | (exfalso; omega)
     | rfl
   ·have e1 : setGErr G ⟨d, t⟩ = 0 := by unfold setGErr; rw [hr, if_neg (by decide), hk, if_neg (fun h => h64 h.2)]
    have e2 : setG G ⟨d, t⟩ = insG ⟨d, t⟩ (withoutG G (d, t.id)) := by unfold setG; rw [e1, if_pos rfl]; rfl
    rw [e1, e2]
    refine PCall.of_sound tok mixed fn53 (Nat.le_of_ble_eq_true rfl) ?_
    refine Sound.seq tok mixed ?_
    (conv => whnf); repeat' ((with_reducible refine Box.mk ?_) <;> conv => whnf)
    refine Sound.seq tok mixed ?_
    (conv => whnf); (repeat' ((first | (with_reducible refine Box.mk ?_) | ((with_reducible show ACall _ _ _ _ _); refine ACall.of_pure (by assumption) (by rfl) ?_) | fail) <;> conv => whnf))
    refine Sound.seq tok mixed ?_
    (conv => whnf); (repeat' ((first | (with_reducible refine Box.mk ?_) | ((with_reducible show ACall _ _ _ _ _); refine ACall.of_pure (by assumption) (by rfl) ?_) | fail) <;> conv => whnf))
    refine Sound.seq tok mixed ?_
    (conv => whnf); (repeat' ((with_reducible first | refine Box.mk ?_ | refine And.intro (fun _ => ?_) (fun _ => ?_) | fail) <;> conv => whnf))
    all_goals try (exfalso; omega)
    exact Sound.weak (weak_ren_to (l := [(0, .sl (hdl G)), (1, .int .u32 (d : Int)), (5, .ptr 0 0)]) [(0, true)] rfl rfl rfl ⟨rfl, rfl, rfl, trivial⟩) (set16_tail G d t hl)
  | some x =>
   rw [hfd] at q2
   have q2 : PCall P _ _ (.tup [.agg [.int .i64 x.t.id, .int .i64 x.t.scope, .sl (scl x.t.fields)], .bool true]) := q2
   have e1 : setGErr G ⟨d, t⟩ = 0 := by unfold setGErr; rw [hr, if_neg (by decide), hk, if_neg (fun h => by rw [hfd] at h; cases h.1)]
   have e2 : setG G ⟨d, t⟩ = insG ⟨d, t⟩ (withoutG G (d, t.id)) := by unfold setG; rw [e1, if_pos rfl]; rfl
   rw [e1, e2]
   refine PCall.of_sound tok mixed fn53 (Nat.le_of_ble_eq_true rfl) ?_
   refine Sound.seq tok mixed ?_
   (conv => whnf); repeat' ((with_reducible refine Box.mk ?_) <;> conv => whnf)
   refine Sound.seq tok mixed ?_
   (conv => whnf); (repeat' ((first | (with_reducible refine Box.mk ?_) | ((with_reducible show ACall _ _ _ _ _); refine ACall.of_pure (by assumption) (by rfl) ?_) | fail) <;> conv => whnf))
   refine Sound.seq tok mixed ?_
   (conv => whnf); (repeat' ((first | (with_reducible refine Box.mk ?_) | ((with_reducible show ACall _ _ _ _ _); refine ACall.of_pure (by assumption) (by rfl) ?_) | fail) <;> conv => whnf))
   refine Sound.seq tok mixed ?_
   (conv => whnf); repeat' ((with_reducible refine Box.mk ?_) <;> conv => whnf)
   all_goals try (exfalso; omega)
   exact Sound.weak (weak_ren_to (l := [(0, .sl (hdl G)), (1, .int .u32 (d : Int)), (5, .ptr 0 0)]) [(0, true)] rfl rfl rfl ⟨rfl, rfl, rfl, trivial⟩) (set16_tail G d t hl)
end Go.Proofs.YtnajpmepcffnaaaGreatDoor
end

section
/- The document's messages: templates. -/
namespace Go.Proofs.YtnajpmepcffnaaaGreatDoor
open Go.Ve
attribute [local irreducible] Sound

theorem tmplsX_short (m : Nat) (c : List Hd) (d : Nat) (opt : Bool) {bs : Bs} (h : bs.length < 4) : tmplsX opG m c d opt bs = (c, 0) := by
 cases m with
 | zero => rfl
 | succ m => unfold tmplsX; rw [if_pos h]
theorem tmplsX_succ (m : Nat) (c : List Hd) (d : Nat) (opt : Bool) (bs : Bs) : tmplsX opG (m + 1) c d opt bs = (if bs.length < 4 then (c, 0) else if (tmplX opG c d opt bs).2.1 ≠ 0 then ((tmplX opG c d opt bs).1, (tmplX opG c d opt bs).2.1) else tmplsX opG m (tmplX opG c d opt bs).1 d opt (tmplX opG c d opt bs).2.2) := rfl
theorem tmplsX_at {m : Nat} {c : List Hd} {d : Nat} {opt : Bool} {bs : Bs} {z : List Hd × Int} (hz : tmplsX opG m c d opt bs = z) (h4 : 4 ≤ bs.length) (hm : bs.length ≤ m) {c1 : List Hd} {er : Int} {b1 : Bs} (hq : tmplX opG c d opt bs = (c1, er, b1)) :
  (er ≠ 0 → z = (c1, er)) ∧ (er = 0 → ∃ m', m = m' + 1 ∧ tmplsX opG m' c1 d opt b1 = z) := by
 obtain ⟨m, rfl⟩ : ∃ k, m = k + 1 := ⟨m - 1, by omega⟩
 rw [tmplsX_succ, if_neg (by omega), hq] at hz
 dsimp only at hz
 refine ⟨fun h => ?_, fun h => ⟨m, rfl, ?_⟩⟩
 ·rw [if_pos h] at hz; exact hz.symm
 ·rw [if_neg (fun hx => hx h)] at hz; exact hz
theorem specsG_app (n : Nat) (bs : Bs) (e : Int) : specsG (n + 1) bs e = ((readF bs e).1 :: (specsG n (readF bs e).2.1 (readF bs e).2.2).1, (specsG n (readF bs e).2.1 (readF bs e).2.2).2) := rfl
theorem specsG_le : ∀ (n : Nat) (bs : Bs) (e : Int), (specsG n bs e).2.1.length ≤ bs.length ∧ (specsG n bs e).1.length = n
 | 0, _, _ => ⟨Nat.le_refl _, rfl⟩
 | n + 1, bs, e => by
  rw [specsG_app]
  have h1 := read_le bs e
  obtain ⟨h2, h3⟩ := specsG_le n (readF bs e).2.1 (readF bs e).2.2
  exact ⟨Nat.le_trans h2 h1, by rw [List.length_cons, h3]⟩
def tpS (d : Rd (List Hd)) (opt : Bool) (c : List Hd) (pre bs : Bs) : AS :=
 ⟨envL [(2, .bool opt), (3, .ptr 1 0), (6, .ptr 2 0), (8, .ptr 3 0)], [rwO d, .box 35 (stO { d with c := c } 0), .box 35 zst, .box 115 [.sl (bcl (pre ++ bs)), .int .i64 (pre.length : Int), .int .i64 0]]⟩
def tpT (d : Rd (List Hd)) (opt : Bool) (c : List Hd) (id n : Nat) (sc : Nat) (f : AV) (pre bs : Bs) (e : Int) : AS :=
 ⟨envL [(2, .bool opt), (3, .ptr 1 0), (6, .ptr 2 0), (8, .ptr 3 0), (9, .ptr 4 0), (10, .int .i64 (n : Int)), (11, .int .i64 0)], [rwO d, .box 35 (stO { d with c := c } 0), .box 35 zst, .box 115 [.sl (bcl (pre ++ bs)), .int .i64 (pre.length : Int), .int .i64 e], .box 58 [.int .i64 (id : Int), .int .i64 (sc : Int), f]]⟩
def cdr17 : Code → Code
 | .seq _ y => y
 | c => c
def car17 : Code → Code
 | .seq x _ => x
 | .block _ x => x
 | .loop x => x
 | c => c
noncomputable def tpRound : Code := car17 (car17 (car17 (cdr17 (cdr17 (Tryz.f25.body.getD .skip)))))
noncomputable def tpRest : Code := cdr17 (cdr17 (cdr17 (Tryz.f25.body.getD .skip)))
def tpPost (d : Rd (List Hd)) (z : List Hd × Int) : AQ := FPost ty Tryz.f25.results.toList fun vs H' => Weak 1 ⟨envL [(0, mkRes vs)], H'⟩ ⟨envL [(0, .tup [.agg (stO { d with c := z.1 } 0), .int .i64 z.2])], [rwO d]⟩
def TpQ (d : Rd (List Hd)) (opt : Bool) (b : Bs) (z : List Hd × Int) (k : Nat) : AQ :=
 afterQ (fun s'' => ∃ j : List Hd × Bs × Bs × Nat, (j.1.length ≤ 64 ∧ j.2.1 ++ j.2.2.1 = b ∧ j.2.2.1.length ≤ j.2.2.2 ∧ tmplsX opG j.2.2.2 j.1 d.dom opt j.2.2.1 = z) ∧ j.2.2.1.length < k ∧ Weak 1 s'' (tpS d opt j.1 j.2.1 j.2.2.1))
  (blockQ 0 (afterQ (fun s' => Sound P Tryz.f25.ntmps none 1 tpRest (tpPost d z) s') (tpPost d z)))
theorem tpEnd (d : Rd (List Hd)) (opt : Bool) (c : List Hd) (pre bs : Bs) : Sound P Tryz.f25.ntmps none 1 tpRest (tpPost d (c, 0)) (tpS d opt c pre bs) := by
 unfold tpS
 refine Sound.awp tok mixed ?_
 (conv => whnf); repeat' ((with_reducible refine Box.mk ?_) <;> conv => whnf)
 exact weak_ren_to [(0, true)] rfl rfl rfl ⟨rfl, trivial⟩
set_option maxHeartbeats 4000000 in
theorem tpShort (d : Rd (List Hd)) (opt : Bool) (c : List Hd) (pre bs : Bs) (k : Nat) (b : Bs) (hpb : pre ++ bs = b) (hb : b.length ≤ 1000000000) (h4 : bs.length < 4) :
  Sound P Tryz.f25.ntmps none 1 tpRound (TpQ d opt b (c, 0) k) (tpS d opt c pre bs) := by
 have he := tpEnd d opt c pre bs
 have q := xLeft_ok pre bs 0 (by rw [hpb]; exact hb)
 rw [rest_zero] at q
 unfold TpQ
 unfold tpS at *
 refine Sound.seq tok mixed ?_
 (conv => whnf); repeat' ((with_reducible refine Box.mk ?_) <;> conv => whnf)
 refine aW [3] q rfl rfl rfl ?_
 (conv => whnf); (repeat' ((with_reducible first | refine Box.mk ?_ | refine And.intro (fun _ => ?_) (fun _ => ?_) | fail) <;> conv => whnf))
 ·exfalso; omega
 exact Sound.weak (weak_ren_to (l := [(2, .bool opt), (3, .ptr 1 0), (6, .ptr 2 0), (8, .ptr 3 0)]) [(0, true), (1, true), (2, true), (3, true)] rfl rfl rfl ⟨rfl, rfl, rfl, rfl, trivial⟩) he
end Go.Proofs.YtnajpmepcffnaaaGreatDoor
end

section
/- The document's messages: a template, read. -/
namespace Go.Proofs.YtnajpmepcffnaaaGreatDoor
open Go.Ve
attribute [local irreducible] Sound

noncomputable def tpD : Code := cdr17 (cdr17 (cdr17 (car17 (cdr17 tpRound))))
noncomputable def tpE : Code := cdr17 tpD
noncomputable def tpF : Code := cdr17 tpE
noncomputable def tpG : Code := cdr17 tpF
noncomputable def tpI : Code := cdr17 tpG
abbrev TpS (d : Rd (List Hd)) (opt : Bool) (b : Bs) (z : List Hd × Int) (k : Nat) (code : Code) (s : AS) : Prop := Sound P Tryz.f25.ntmps none 1 code (blockQ 1 (TpQ d opt b z k)) s
theorem tpNone (d : Rd (List Hd)) (opt : Bool) (b : Bs) (z : List Hd × Int) (k : Nat) (c : List Hd) (hc : c.length ≤ 64) (id : Nat) (pre bs : Bs) (hpb : pre ++ bs = b) (hk : bs.length < k)
  (hbad : (withdrawF opG c d.dom opt id).2 ≠ 0 → z = ((withdrawF opG c d.dom opt id).1, (withdrawF opG c d.dom opt id).2))
  (hgood : (withdrawF opG c d.dom opt id).2 = 0 → ∃ m', bs.length ≤ m' ∧ tmplsX opG m' (withdrawF opG c d.dom opt id).1 d.dom opt bs = z) :
  TpS d opt b z k tpD (tpT d opt c id 0 0 .nils pre bs 0) := by
 have q := r17Withdraw_ok { d with c := c } (by show c.length ≤ _; omega) opt id
 have hcl := withdrawG_len hc d.dom opt id
 have q : DCall P _ _ [rwO d] (.tup [.agg (stO { d with c := (withdrawF opG c d.dom opt id).1 } 0), .int .i64 (withdrawF opG c d.dom opt id).2]) [rwO d] := q
 generalize withdrawF opG c d.dom opt id = w at *
 obtain ⟨c1, er⟩ := w
 dsimp only at q hcl hbad hgood
 unfold TpS TpQ tpT
 refine Sound.seq tok mixed ?_
 (conv => whnf); (repeat' ((with_reducible first | refine Box.mk ?_ | refine And.intro (fun _ => ?_) (fun _ => ?_) | fail) <;> conv => whnf))
 all_goals try (exfalso; rename_i hx; exact hx rfl)
 refine aW [0] q rfl rfl rfl ?_
 (conv => whnf); (repeat' ((with_reducible first | refine Box.mk ?_ | refine And.intro (fun _ => ?_) (fun _ => ?_) | fail) <;> conv => whnf))
 ·rename_i h0
  obtain ⟨m', h1, h2⟩ := hgood h0
  exact ⟨(c1, pre, bs, m'), ⟨hcl, hpb, h1, h2⟩, hk, weak_ren_to [(0, true), (1, true), (2, true), (3, true)] rfl rfl rfl ⟨rfl, rfl, rfl, rfl, trivial⟩⟩
 ·rename_i h0
  rw [hbad h0]
  exact weak_ren_to [(0, true)] rfl rfl rfl ⟨rfl, trivial⟩
theorem tpMany (d : Rd (List Hd)) (opt : Bool) (b : Bs) (k : Nat) (c : List Hd) (id n : Nat) (hn : 64 < n) (hn2 : n < 65536) (pre bs : Bs) :
  TpS d opt b (c, 3) k tpD (tpT d opt c id n 0 .nils pre bs 0) := by
 unfold TpS TpQ tpT
 refine Sound.seq tok mixed ?_
 (conv => whnf); (repeat' ((with_reducible first | refine Box.mk ?_ | refine And.intro (fun _ => ?_) (fun _ => ?_) | fail) <;> conv => whnf))
 ·exfalso; omega
 refine Sound.seq tok mixed ?_
 (conv => whnf); (repeat' ((with_reducible first | refine Box.mk ?_ | refine And.intro (fun _ => ?_) (fun _ => ?_) | fail) <;> conv => whnf))
 ·exact weak_ren_to [(0, true)] rfl rfl rfl ⟨rfl, trivial⟩
 ·exfalso; omega
theorem specsG_snoc {n : Nat} {l : List Sc} {bs : Bs} {e : Int} {z : List Sc × Bs × Int} (h : (l ++ (specsG (n + 1) bs e).1, (specsG (n + 1) bs e).2) = z) : ((l ++ [(readF bs e).1]) ++ (specsG n (readF bs e).2.1 (readF bs e).2.2).1, (specsG n (readF bs e).2.1 (readF bs e).2.2).2) = z := by
 rw [← h, specsG_app, List.append_assoc]; rfl
theorem tpFields (d : Rd (List Hd)) (opt : Bool) (b : Bs) (hb : b.length ≤ 1000000000) (z : List Hd × Int) (k : Nat) (c : List Hd) (id n sc : Nat) (hn : n ≤ 64) (pre bs : Bs) (e : Int) (hpb : pre ++ bs = b)
  (fs : List Sc) (b5 : Bs) (e5 : Int) (hs : specsG n bs e = (fs, b5, e5))
  (hI : ∀ pre', pre' ++ b5 = b → TpS d opt b z k tpI (tpT d opt c id n sc (.sl (scl fs)) pre' b5 e5)) :
  TpS d opt b z k tpG (tpT d opt c id n sc .nils pre bs e) := by
 unfold TpS at *
 unfold tpT at *
 refine Sound.seq tok mixed ?_
 (conv => whnf); repeat' ((with_reducible refine Box.mk ?_) <;> conv => whnf)
 refine aloop (fun x : Nat × List Sc × Bs × Bs × Int => x.1 ≤ n ∧ x.2.1.length = x.1 ∧ x.2.2.1 ++ x.2.2.2.1 = b ∧ (x.2.1 ++ (specsG (n - x.1) x.2.2.2.1 x.2.2.2.2).1, (specsG (n - x.1) x.2.2.2.1 x.2.2.2.2).2) = (fs, b5, e5))
  (fun x => ⟨envL [(2, .bool opt), (3, .ptr 1 0), (6, .ptr 2 0), (8, .ptr 3 0), (9, .ptr 4 0), (10, .int .i64 (n : Int)), (11, .int .i64 0), (12, .int .i64 (x.1 : Int))], [rwO d, .box 35 (stO { d with c := c } 0), .box 35 zst, .box 115 [.sl (bcl (x.2.2.1 ++ x.2.2.2.1)), .int .i64 (x.2.2.1.length : Int), .int .i64 x.2.2.2.2], .box 58 [.int .i64 (id : Int), .int .i64 (sc : Int), .own 5], .row 82 3 (scl x.2.1)]⟩)
  (fun x => n - x.1) (0, [], pre, bs, e) ⟨Nat.zero_le _, rfl, hpb, by rw [List.nil_append]; exact hs⟩ ?_ ?_
 ·exact weak_nilrow (H' := [rwO d, .box 35 (stO { d with c := c } 0), .box 35 zst, .box 115 [.sl (bcl (pre ++ bs)), .int .i64 (pre.length : Int), .int .i64 e], .box 58 [.int .i64 (id : Int), .int .i64 (sc : Int), .own 5]]) 82 3 (by decide) ⟨.inl rfl, .inl rfl, .inl rfl, .inl rfl, .inl rfl, .inl rfl, .inl rfl, .inl rfl, trivial⟩ ⟨.inl rfl, .inl rfl, .inl rfl, .inl rfl, .inr ⟨rfl, .inl rfl, .inl rfl, .inr ⟨rfl, rfl⟩, trivial⟩, trivial⟩
 rintro ⟨j, l, pre, bs, e⟩ ⟨hj, hll, hpb, hz⟩
 dsimp only at hj hll hpb hz ⊢
 have hsl : (scl l).length = j := by rw [scl_len]; exact hll
 by_cases hlt : j < n
 ·obtain ⟨pre1, hp1, q⟩ := xfRead_ok pre bs e (by rw [hpb]; exact hb)
  rw [show n - j = n - (j + 1) + 1 by omega] at hz
  have hst := specsG_snoc hz
  have hsn := scl_snoc l (readF bs e).1
  generalize readF bs e = r at *
  obtain ⟨s, b', e'⟩ := r
  dsimp only at hp1 q hst hsn
  (conv => whnf); (repeat' ((with_reducible first | refine Box.mk ?_ | refine And.intro (fun _ => ?_) (fun _ => ?_) | fail) <;> conv => whnf))
  rotate_left
  ·exfalso; rename_i h; have h : ¬ (j : Int) < (n : Int) := h; omega
  refine ⟨[(3, [1]), (2003, []), (2004, [])], by kernel_rfl, ?_⟩
  (conv => whnf); repeat' ((with_reducible refine Box.mk ?_) <;> conv => whnf)
  refine aDw [3] q rfl rfl rfl ?_
  (conv => whnf); (repeat' ((with_reducible first | refine Box.mk ?_ | refine And.intro (fun _ => ?_) (fun _ => ?_) | refine (forceH_eq _ _).mpr ?_ | fail) <;> conv => whnf))
  (refine And.intro ?_ ?_); (focus ((conv => whnf); (repeat' first | exact trivial | ((refine And.intro ?_ ?_); (focus ((conv => whnf); (first | exact ⟨rfl, rfl⟩ | exact ⟨by decide, by decide, rfl, rfl⟩ | exact ⟨by omega, by omega, rfl, rfl⟩ | exact ⟨by (simp only [List.length_drop, List.length_take]; omega), rfl, rfl⟩ | exact ⟨_, rfl, rfl, rfl⟩ | exact ⟨by omega, _, by assumption, rfl, rfl, rfl⟩ | ((refine ACall.of_pure (by assumption) (by rfl) ?_); (refine And.intro ?_ ?_ <;> rfl))))); (conv => whnf)))))
  (conv => whnf); repeat' ((with_reducible refine Box.mk ?_) <;> conv => whnf)
  refine ⟨fun c hc => by rw [List.mem_singleton.1 hc]; exact ⟨rfl, rfl⟩, by rw [hsl]; show (_ + 1) * 24 ≤ _; omega, by rw [hsl]; show _ + 1 ≤ _; omega, ?_⟩
  (conv => whnf); repeat' ((with_reducible refine Box.mk ?_) <;> conv => whnf)
  refine ⟨(j + 1, l ++ [s], pre1, b', e'), ⟨hlt, by show (l ++ [s]).length = _; rw [List.length_append, hll]; rfl, by show pre1 ++ b' = b; rw [hp1]; exact hpb, hst⟩, by show n - (j + 1) < n - j; omega, weak_ren_to [(0, true), (1, true), (2, true), (3, true), (4, true), (6, true)] rfl rfl ?_ ⟨rfl, rfl, rfl, rfl, rfl, rfl, rfl, wrap_nat (m := 1) (by omega), trivial⟩⟩
  rw [hsn]
  rfl
 ·have hjn : j = n := by omega
  rw [hjn, Nat.sub_self] at hz
  have hz : (l ++ [], bs, e) = (fs, b5, e5) := hz
  rw [List.append_nil] at hz
  simp only [Prod.mk.injEq] at hz
  obtain ⟨rfl, rfl, rfl⟩ := hz
  have hI := hI pre hpb
  (conv => whnf); (repeat' ((with_reducible first | refine Box.mk ?_ | refine And.intro (fun _ => ?_) (fun _ => ?_) | fail) <;> conv => whnf))
  ·exfalso; rename_i h; have h : (j : Int) < (n : Int) := h; omega
  exact Sound.weak ((weak_const 5 rfl (l := [(2, .bool opt), (3, .ptr 1 0), (6, .ptr 2 0), (8, .ptr 3 0), (9, .ptr 4 0), (10, .int .i64 (n : Int)), (11, .int .i64 0)]) rfl ⟨rfl, rfl, rfl, rfl, rfl, rfl, rfl, trivial⟩).trans (weak_ren_to (l := [(2, .bool opt), (3, .ptr 1 0), (6, .ptr 2 0), (8, .ptr 3 0), (9, .ptr 4 0), (10, .int .i64 (n : Int)), (11, .int .i64 0)]) [(0, true), (1, true), (2, true), (3, true), (4, true)] rfl rfl rfl ⟨rfl, rfl, rfl, rfl, rfl, rfl, rfl, trivial⟩)) hI
end Go.Proofs.YtnajpmepcffnaaaGreatDoor
end

section
/- The document's messages: templates, put together. -/
namespace Go.Proofs.YtnajpmepcffnaaaGreatDoor
open Go.Ve
attribute [local irreducible] Sound

theorem tpI_bad (d : Rd (List Hd)) (opt : Bool) (b : Bs) (k : Nat) (c : List Hd) (id n sc : Nat) (fs : List Sc) (pre bs : Bs) (e : Int) (he : e ≠ 0) :
  TpS d opt b (c, e) k tpI (tpT d opt c id n sc (.sl (scl fs)) pre bs e) := by
 unfold TpS TpQ tpT
 refine Sound.seq tok mixed ?_
 (conv => whnf); (repeat' ((with_reducible first | refine Box.mk ?_ | refine And.intro (fun _ => ?_) (fun _ => ?_) | fail) <;> conv => whnf))
 all_goals try exact absurd (by assumption) he
 refine ⟨[(5, [4])], by kernel_rfl, ?_⟩
 (conv => whnf); repeat' ((with_reducible refine Box.mk ?_) <;> conv => whnf)
 (refine And.intro ?_ ?_); (focus ((conv => whnf); (repeat' first | exact trivial | ((refine And.intro ?_ ?_); (focus ((conv => whnf); (first | exact ⟨rfl, rfl⟩ | exact ⟨by decide, by decide, rfl, rfl⟩ | exact ⟨by omega, by omega, rfl, rfl⟩ | exact ⟨by (simp only [List.length_drop, List.length_take]; omega), rfl, rfl⟩ | exact ⟨_, rfl, rfl, rfl⟩ | exact ⟨by omega, _, by assumption, rfl, rfl, rfl⟩ | ((refine ACall.of_pure (by assumption) (by rfl) ?_); (refine And.intro ?_ ?_ <;> rfl))))); (conv => whnf)))))
 (conv => whnf); repeat' ((with_reducible refine Box.mk ?_) <;> conv => whnf)
 exact weak_ren_to [(0, true)] rfl rfl rfl ⟨rfl, trivial⟩
theorem tpI_ok (d : Rd (List Hd)) (opt : Bool) (b : Bs) (z : List Hd × Int) (k : Nat) (c : List Hd) (hc : c.length ≤ 64) (id n sc : Nat) (fs : List Sc) (hf : fs.length ≤ 64) (pre bs : Bs) (hpb : pre ++ bs = b) (hk : bs.length < k)
  (hbad : setGErr c ⟨d.dom, ⟨(id : Int), (sc : Int), fs⟩⟩ ≠ 0 → z = (setG c ⟨d.dom, ⟨(id : Int), (sc : Int), fs⟩⟩, setGErr c ⟨d.dom, ⟨(id : Int), (sc : Int), fs⟩⟩))
  (hgood : setGErr c ⟨d.dom, ⟨(id : Int), (sc : Int), fs⟩⟩ = 0 → ∃ m', bs.length ≤ m' ∧ tmplsX opG m' (setG c ⟨d.dom, ⟨(id : Int), (sc : Int), fs⟩⟩) d.dom opt bs = z) :
  TpS d opt b z k tpI (tpT d opt c id n sc (.sl (scl fs)) pre bs 0) := by
 have q := r16Set_ok c d.dom ⟨(id : Int), (sc : Int), fs⟩ (by omega) (by show fs.length ≤ _; omega)
 have hcl := setG_len hc ⟨d.dom, ⟨(id : Int), (sc : Int), fs⟩⟩
 have q : PCall P _ [.sl (hdl c), .int .u32 (d.dom : Int), .agg [.int .i64 (id : Int), .int .i64 (sc : Int), .sl (scl fs)]] _ := q
 generalize setG c ⟨d.dom, ⟨(id : Int), (sc : Int), fs⟩⟩ = c1 at *
 generalize setGErr c ⟨d.dom, ⟨(id : Int), (sc : Int), fs⟩⟩ = er at *
 unfold TpS TpQ tpT
 refine Sound.seq tok mixed ?_
 (conv => whnf); (repeat' ((with_reducible first | refine Box.mk ?_ | refine And.intro (fun _ => ?_) (fun _ => ?_) | fail) <;> conv => whnf))
 all_goals try (exfalso; rename_i hx; exact hx rfl)
 refine Sound.seq tok mixed ?_
 (conv => whnf); (repeat' ((first | (with_reducible refine Box.mk ?_) | ((with_reducible show ACall _ _ _ _ _); refine ACall.of_pure (by assumption) (by rfl) ?_) | fail) <;> conv => whnf))
 refine Sound.awp tok mixed ?_
 (conv => whnf); (repeat' ((with_reducible first | refine Box.mk ?_ | refine And.intro (fun _ => ?_) (fun _ => ?_) | fail) <;> conv => whnf))
 ·rename_i h0
  obtain ⟨m', h1, h2⟩ := hgood h0
  exact ⟨(c1, pre, bs, m'), ⟨hcl, hpb, h1, h2⟩, hk, weak_ren_to [(0, true), (1, true), (2, true), (3, true)] rfl rfl rfl ⟨rfl, rfl, rfl, rfl, trivial⟩⟩
 ·rename_i h0
  rw [hbad h0]
  exact weak_ren_to [(0, true)] rfl rfl rfl ⟨rfl, trivial⟩
theorem tpScope (d : Rd (List Hd)) (opt : Bool) (b : Bs) (hb : b.length ≤ 1000000000) (z : List Hd × Int) (k : Nat) (c : List Hd) (id n : Nat) (pre bs : Bs) (hpb : pre ++ bs = b)
  (sc : Nat) (b4 : Bs) (e4 : Int) (hs : scopeX opt n bs = (sc, b4, e4))
  (hI : ∀ pre', pre' ++ b4 = b → TpS d opt b z k tpG (tpT d opt c id n sc .nils pre' b4 e4)) :
  TpS d opt b z k tpF (tpT d opt c id n 0 .nils pre bs 0) := by
 unfold scopeX at hs
 cases opt
 ·rw [cond_false] at hs
  simp only [Prod.mk.injEq] at hs
  obtain ⟨rfl, rfl, rfl⟩ := hs
  have hI := hI pre hpb
  unfold TpS at *
  unfold tpT at *
  refine Sound.seq tok mixed ?_
  (conv => whnf); repeat' ((with_reducible refine Box.mk ?_) <;> conv => whnf)
  exact Sound.weak (weak_ren_to (l := [(2, .bool false), (3, .ptr 1 0), (6, .ptr 2 0), (8, .ptr 3 0), (9, .ptr 4 0), (10, .int .i64 (n : Int)), (11, .int .i64 0)]) [(0, true), (1, true), (2, true), (3, true), (4, true)] rfl rfl rfl ⟨rfl, rfl, rfl, rfl, rfl, rfl, rfl, trivial⟩) hI
 ·rw [cond_true] at hs
  have q := xrNum_ok pre bs 0 2 (by rw [hpb]; exact hb)
  have l1 := raw_app 2 bs 0
  have v1 := raw_val 2 65536 bs 0 rfl
  rw [show ((szN 2 : Nat) : Int) = 2 from rfl] at q
  rw [show (((2 : Nat) : Nat) : Int) = 2 from rfl] at v1
  generalize rawF 2 bs 0 = r at *
  obtain ⟨x3, b3, e3⟩ := r
  dsimp only at q l1 v1 hs
  have m1 := fun t => xMust_ok (pre ++ x3) b3 e3 t
  generalize valB x3 = s at *
  simp only [Prod.mk.injEq] at hs
  obtain ⟨rfl, rfl, rfl⟩ := hs
  have hI := hI (pre ++ x3) (by rw [List.append_assoc, l1]; exact hpb)
  have w1 : IntKind.i64.wrap (s : Int) = s := wrap_i64 (by omega) (by omega)
  unfold TpS at *
  unfold tpT at *
  unfold xH at m1
  refine Sound.seq tok mixed ?_
  (conv => whnf); repeat' ((with_reducible refine Box.mk ?_) <;> conv => whnf)
  refine aW [3] q rfl rfl rfl ?_
  (conv => whnf); (repeat' ((with_reducible first | refine Box.mk ?_ | refine And.intro (fun _ => ?_) (fun _ => ?_) | fail) <;> conv => whnf))
  ·rename_i h1 h2
   rw [w1] at h1 h2 ⊢
   rw [decide_eq_true (show 0 < s ∧ s ≤ n by omega)] at hI
   refine aW [3] (m1 true) rfl rfl rfl ?_
   (conv => whnf); repeat' ((with_reducible refine Box.mk ?_) <;> conv => whnf)
   exact Sound.weak (weak_ren_to (l := [(2, .bool true), (3, .ptr 1 0), (6, .ptr 2 0), (8, .ptr 3 0), (9, .ptr 4 0), (10, .int .i64 (n : Int)), (11, .int .i64 0)]) [(0, true), (1, true), (2, true), (3, true), (4, true)] rfl rfl rfl ⟨rfl, rfl, rfl, rfl, rfl, rfl, rfl, trivial⟩) hI
  ·rename_i h1 h2
   rw [w1] at h1 h2 ⊢
   rw [decide_eq_false (show ¬ (0 < s ∧ s ≤ n) by omega)] at hI
   refine aW [3] (m1 false) rfl rfl rfl ?_
   (conv => whnf); repeat' ((with_reducible refine Box.mk ?_) <;> conv => whnf)
   exact Sound.weak (weak_ren_to (l := [(2, .bool true), (3, .ptr 1 0), (6, .ptr 2 0), (8, .ptr 3 0), (9, .ptr 4 0), (10, .int .i64 (n : Int)), (11, .int .i64 0)]) [(0, true), (1, true), (2, true), (3, true), (4, true)] rfl rfl rfl ⟨rfl, rfl, rfl, rfl, rfl, rfl, rfl, trivial⟩) hI
  ·rename_i h1
   rw [w1] at h1 ⊢
   rw [decide_eq_false (show ¬ (0 < s ∧ s ≤ n) by omega)] at hI
   refine aW [3] (m1 false) rfl rfl rfl ?_
   (conv => whnf); repeat' ((with_reducible refine Box.mk ?_) <;> conv => whnf)
   exact Sound.weak (weak_ren_to (l := [(2, .bool true), (3, .ptr 1 0), (6, .ptr 2 0), (8, .ptr 3 0), (9, .ptr 4 0), (10, .int .i64 (n : Int)), (11, .int .i64 0)]) [(0, true), (1, true), (2, true), (3, true), (4, true)] rfl rfl rfl ⟨rfl, rfl, rfl, rfl, rfl, rfl, rfl, trivial⟩) hI
theorem tpSome (d : Rd (List Hd)) (opt : Bool) (b : Bs) (hb : b.length ≤ 1000000000) (z : List Hd × Int) (k : Nat) (c : List Hd) (hc : c.length ≤ 64) (id n : Nat) (h0 : n ≠ 0) (hn : n ≤ 64) (pre bs : Bs) (hpb : pre ++ bs = b) (hk : bs.length < k)
  (sc : Nat) (b4 : Bs) (e4 : Int) (hs : scopeX opt n bs = (sc, b4, e4)) (fs : List Sc) (b5 : Bs) (e5 : Int) (hf : specsG n b4 e4 = (fs, b5, e5)) (hbl : b4.length ≤ bs.length)
  (hz : e5 ≠ 0 → z = (c, e5))
  (hbad : e5 = 0 → setGErr c ⟨d.dom, ⟨(id : Int), (sc : Int), fs⟩⟩ ≠ 0 → z = (setG c ⟨d.dom, ⟨(id : Int), (sc : Int), fs⟩⟩, setGErr c ⟨d.dom, ⟨(id : Int), (sc : Int), fs⟩⟩))
  (hgood : e5 = 0 → setGErr c ⟨d.dom, ⟨(id : Int), (sc : Int), fs⟩⟩ = 0 → ∃ m', b5.length ≤ m' ∧ tmplsX opG m' (setG c ⟨d.dom, ⟨(id : Int), (sc : Int), fs⟩⟩) d.dom opt b5 = z) :
  TpS d opt b z k tpD (tpT d opt c id n 0 .nils pre bs 0) := by
 have hle := specsG_le n b4 e4
 rw [hf] at hle
 have hle1 : b5.length ≤ b4.length := hle.1
 have hle2 : fs.length = n := hle.2
 have h1 := tpScope d opt b hb z k c id n pre bs hpb sc b4 e4 hs fun pre1 hp1 => tpFields d opt b hb z k c id n sc hn pre1 b4 e4 hp1 fs b5 e5 hf fun pre2 hp2 => by
  by_cases he : e5 = 0
  ·subst he
   exact tpI_ok d opt b z k c hc id n sc fs (by omega) pre2 b5 hp2 (by omega) (hbad rfl) (hgood rfl)
  ·rw [hz he]
   exact tpI_bad d opt b k c id n sc fs pre2 b5 e5 he
 unfold TpS at *
 unfold tpT at *
 refine Sound.seq tok mixed ?_
 (conv => whnf); (repeat' ((with_reducible first | refine Box.mk ?_ | refine And.intro (fun _ => ?_) (fun _ => ?_) | fail) <;> conv => whnf))
 ·exfalso; omega
 refine Sound.seq tok mixed ?_
 (conv => whnf); (repeat' ((with_reducible first | refine Box.mk ?_ | refine And.intro (fun _ => ?_) (fun _ => ?_) | fail) <;> conv => whnf))
 ·exfalso; omega
 exact Sound.weak (weak_ren_to (l := [(2, .bool opt), (3, .ptr 1 0), (6, .ptr 2 0), (8, .ptr 3 0), (9, .ptr 4 0), (10, .int .i64 (n : Int)), (11, .int .i64 0)]) [(0, true), (1, true), (2, true), (3, true), (4, true)] rfl rfl rfl ⟨rfl, rfl, rfl, rfl, rfl, rfl, rfl, trivial⟩) h1
theorem scopeX_le (opt : Bool) (n : Nat) (bs : Bs) : (scopeX opt n bs).2.1.length ≤ bs.length := by
 unfold scopeX
 cases opt
 ·exact Nat.le_refl _
 ·exact raw_rest 2 bs 0
theorem tpLong (d : Rd (List Hd)) (opt : Bool) (b : Bs) (hb : b.length ≤ 1000000000) (z : List Hd × Int) (c : List Hd) (hc : c.length ≤ 64) (pre bs : Bs) (m : Nat) (hpb : pre ++ bs = b) (h4 : 4 ≤ bs.length) (hm : bs.length ≤ m) (hz : tmplsX opG m c d.dom opt bs = z) :
  Sound P Tryz.f25.ntmps none 1 tpRound (TpQ d opt b z bs.length) (tpS d opt c pre bs) := by
 obtain ⟨hbad, hgood⟩ := tmplsX_at hz h4 hm (c1 := (tmplX opG c d.dom opt bs).1) (er := (tmplX opG c d.dom opt bs).2.1) (b1 := (tmplX opG c d.dom opt bs).2.2) rfl
 have q0 := xLeft_ok pre bs 0 (by rw [hpb]; exact hb)
 rw [rest_zero] at q0
 have q1 := xnum2 (pre := pre) (bs := bs) (by omega) (by rw [hpb]; exact hb)
 have hp1 : pre ++ bs.take 2 ++ bs.drop 2 = b := by rw [List.append_assoc, List.take_append_drop]; exact hpb
 have q2 := xnum2 (pre := pre ++ bs.take 2) (bs := bs.drop 2) (by rw [List.length_drop]; omega) (by rw [hp1]; exact hb)
 have hp2 : pre ++ bs.take 2 ++ (bs.drop 2).take 2 ++ bs.drop 4 = b := by
  rw [List.append_assoc, show bs.drop 4 = (bs.drop 2).drop 2 by rw [List.drop_drop], List.take_append_drop]; exact hp1
 rw [List.drop_drop] at q2
 have q2 : DCall P _ _ _ _ (xH (pre ++ bs.take 2 ++ (bs.drop 2).take 2) (bs.drop 4) 0) := q2
 have v1 := val2 bs
 have v2 := val2 (bs.drop 2)
 have w1 : IntKind.i64.wrap (valB (bs.take 2) : Int) = (idB bs : Int) := wrap_i64 (by omega) (by omega)
 have w2 : IntKind.i64.wrap (valB ((bs.drop 2).take 2) : Int) = (cntB bs : Int) := wrap_i64 (by omega) (by omega)
 have hl4 : (bs.drop 4).length = bs.length - 4 := List.length_drop
 have hD : TpS d opt b z bs.length tpD (tpT d opt c (idB bs) (cntB bs) 0 .nils (pre ++ bs.take 2 ++ (bs.drop 2).take 2) (bs.drop 4) 0) := by
  unfold tmplX at hbad hgood
  by_cases hn0 : cntB bs = 0
  ·rw [if_pos hn0] at hbad hgood
   rw [hn0]
   refine tpNone d opt b z bs.length c hc (idB bs) _ _ hp2 (by clear hbad hgood; omega) (fun h => hbad h) fun h => ?_
   obtain ⟨m', k1, k2⟩ := hgood h
   exact ⟨m', by clear hbad hgood; omega, k2⟩
  ·rw [if_neg hn0] at hbad hgood
   by_cases hn : 64 < cntB bs
   ·rw [if_pos hn] at hbad hgood
    rw [hbad (show (3 : Int) ≠ 0 by decide)]
    exact tpMany d opt b bs.length c (idB bs) (cntB bs) hn v2 _ _
   ·rw [if_neg hn] at hbad hgood
    have hsl := scopeX_le opt (cntB bs) (bs.drop 4)
    rcases hs : scopeX opt (cntB bs) (bs.drop 4) with ⟨sc, b4, e4⟩
    rw [hs] at hbad hgood hsl
    dsimp only at hbad hgood hsl
    have hle := (specsG_le (cntB bs) b4 e4).1
    rcases hf : specsG (cntB bs) b4 e4 with ⟨fs, b5, e5⟩
    rw [hf] at hbad hgood hle
    dsimp only at hbad hgood hle
    refine tpSome d opt b hb z bs.length c hc (idB bs) (cntB bs) hn0 (Nat.le_of_not_lt hn) _ _ hp2 (by clear hbad hgood; omega) sc b4 e4 hs fs b5 e5 hf hsl (fun h => ?_) (fun h h2 => ?_) (fun h h2 => ?_)
    ·rw [if_pos h] at hbad
     exact hbad h
    ·rw [if_neg (fun hx => hx h)] at hbad
     exact hbad h2
    ·rw [if_neg (fun hx => hx h)] at hgood
     obtain ⟨m', k1, k2⟩ := hgood h2
     exact ⟨m', by clear hbad hgood; omega, k2⟩
 unfold TpS at hD
 unfold TpQ tpT at *
 unfold tpS
 refine Sound.seq tok mixed ?_
 (conv => whnf); repeat' ((with_reducible refine Box.mk ?_) <;> conv => whnf)
 refine aW [3] q0 rfl rfl rfl ?_
 (conv => whnf); (repeat' ((with_reducible first | refine Box.mk ?_ | refine And.intro (fun _ => ?_) (fun _ => ?_) | fail) <;> conv => whnf))
 rotate_left
 ·exfalso; omega
 refine Sound.block ?_
 refine Sound.seq tok mixed ?_
 (conv => whnf); repeat' ((with_reducible refine Box.mk ?_) <;> conv => whnf)
 refine aW [3] q1 rfl rfl rfl ?_
 (conv => whnf); repeat' ((with_reducible refine Box.mk ?_) <;> conv => whnf)
 refine Sound.seq tok mixed ?_
 (conv => whnf); repeat' ((with_reducible refine Box.mk ?_) <;> conv => whnf)
 refine aW [3] q2 rfl rfl rfl ?_
 (conv => whnf); repeat' ((with_reducible refine Box.mk ?_) <;> conv => whnf)
 refine Sound.seq tok mixed ?_
 (conv => whnf); repeat' ((with_reducible refine Box.mk ?_) <;> conv => whnf)
 rw [w1, w2]
 exact Sound.weak (weak_ren_to (l := [(2, .bool opt), (3, .ptr 1 0), (6, .ptr 2 0), (8, .ptr 3 0), (9, .ptr 4 0), (10, .int .i64 (cntB bs : Int)), (11, .int .i64 0)]) [(0, true), (1, true), (2, true), (3, true), (4, true)] rfl rfl rfl ⟨rfl, rfl, rfl, rfl, rfl, rfl, rfl, trivial⟩) hD
theorem r17Templates_ok (d : Rd (List Hd)) (hc : d.c.length ≤ 64) (b : Bs) (hb : b.length ≤ 1000000000) (opt : Bool) :
  DCall P 25 [.agg (stO d 0), .sl (bcl b), .bool opt] [rwO d] (.tup [.agg (stO { d with c := (tmplsX opG b.length d.c d.dom opt b).1 } 0), .int .i64 (tmplsX opG b.length d.c d.dom opt b).2]) [rwO d] := by
 obtain ⟨z, hz⟩ : ∃ z, tmplsX opG b.length d.c d.dom opt b = z := ⟨_, rfl⟩
 rw [hz]
 have hR := fun (x : List Hd × Bs × Bs × Nat) (hx : x.1.length ≤ 64 ∧ x.2.1 ++ x.2.2.1 = b ∧ x.2.2.1.length ≤ x.2.2.2 ∧ tmplsX opG x.2.2.2 x.1 d.dom opt x.2.2.1 = z) =>
  (show Sound P Tryz.f25.ntmps none 1 tpRound (TpQ d opt b z x.2.2.1.length) (tpS d opt x.1 x.2.1 x.2.2.1) from by
   obtain ⟨h1, h2, h3, h4⟩ := hx
   by_cases hl : 4 ≤ x.2.2.1.length
   ·exact tpLong d opt b hb z x.1 h1 x.2.1 x.2.2.1 x.2.2.2 h2 hl h3 h4
   ·rw [tmplsX_short _ _ _ _ (by omega)] at h4
    rw [← h4]
    exact tpShort d opt x.1 x.2.1 x.2.2.1 _ b h2 hb (by omega))
 unfold TpQ at hR
 refine DCall.of_sound tok mixed fn25 (Nat.le_of_ble_eq_true rfl) ?_
 refine Sound.seq tok mixed ?_
 (conv => whnf); repeat' ((with_reducible refine Box.mk ?_) <;> conv => whnf)
 refine Sound.seq tok mixed ?_
 (conv => whnf); repeat' ((with_reducible refine Box.mk ?_) <;> conv => whnf)
 refine Sound.seqS ?_
 refine Sound.block ?_
 refine Sound.loop (fun x : List Hd × Bs × Bs × Nat => x.1.length ≤ 64 ∧ x.2.1 ++ x.2.2.1 = b ∧ x.2.2.1.length ≤ x.2.2.2 ∧ tmplsX opG x.2.2.2 x.1 d.dom opt x.2.2.1 = z) (fun x => tpS d opt x.1 x.2.1 x.2.2.1) (fun x => x.2.2.1.length) (d.c, [], b, b.length) ⟨hc, rfl, Nat.le_refl _, hz⟩
  (weak_ren_to [(0, true), (1, true), (2, true), (3, true)] rfl rfl rfl ⟨rfl, rfl, rfl, rfl, trivial⟩) hR
end Go.Proofs.YtnajpmepcffnaaaGreatDoor
end

section
/- The document's field: number, Set. -/
namespace Go.Proofs.YtnajpmepcffnaaaGreatDoor
open Go.Ve
attribute [local irreducible] Sound

theorem xNumber_ok (x : Bs) (hx : x.length ≤ 8) : PCall P 83 [.sl (bcl x)] (.int .u64 (valB x : Nat)) := by
 have hbl := bcl_len x
 refine PCall.of_awp tok mixed fn83 (Nat.le_of_ble_eq_true rfl) ?_
 (conv => whnf); repeat' ((with_reducible refine Box.mk ?_) <;> conv => whnf)
 refine aloop (fun i : Nat => i ≤ x.length) (fun i => ⟨envL [(0, .sl (bcl x)), (3, .int .u64 (valB (x.take i) : Nat)), (4, .int .i64 i)], []⟩) (fun i => x.length - i) 0 (Nat.zero_le _) (weak_to ⟨rfl, rfl, rfl, trivial⟩ rfl) ?_
 intro i hi
 have hi : i ≤ x.length := hi
 by_cases hil : i < x.length
 ·have hg := List.getElem?_eq_getElem hil
  have hv := valB_take hg
  have hlt : valB (x.take i) * 256 + (x[i]).toNat < H64 := by rw [← hv]; exact valB_lt8 (by rw [List.length_take]; omega)
  have hc := bcl_get hg
  generalize x[i] = c at *
  (conv => whnf); (repeat' ((with_reducible first | refine Box.mk ?_ | refine And.intro (fun _ => ?_) (fun _ => ?_) | fail) <;> conv => whnf))
  all_goals try (exfalso; omega)
  refine ⟨by omega, _, hc, rfl, ?_⟩
  (conv => whnf); repeat' ((with_reducible refine Box.mk ?_) <;> conv => whnf)
  refine ⟨i + 1, hil, by omega, weak_to ⟨rfl, congrArg (AV.int .u64) ?_, wrap_nat (m := 1) (by omega), trivial⟩ rfl⟩
  have hlt2 : valB (x.take i) * 256 + c.toNat < 18446744073709551616 := hlt
  rw [hv, wrap_u64 (n := 256 * _) (by omega) (by omega), wrap_u64 (n := (c.toNat : Int)) (by omega) (by omega), wrap_u64 (by omega) (by omega)]
  omega
 ·(conv => whnf); (repeat' ((with_reducible first | refine Box.mk ?_ | refine And.intro (fun _ => ?_) (fun _ => ?_) | fail) <;> conv => whnf))
  all_goals try (exfalso; omega)
  exact res1_eq (congrArg (AV.int .u64) (by show ((valB (x.take i) : Nat) : Int) = _; rw [List.take_of_length_le (by omega)]))

theorem xSet_bad (s : Sc) (b : Bs) (r : Rc) (h : saysS s = -1 ∨ (s.len ≠ 65535 ∧ (b.length : Int) ≠ s.len)) : PCall P 57 [rcv r, sv s, .sl (bcl b)] (.tup [rcv zeroR, .int .i64 14]) := by
 have q1 := xfSays_ok s
 have hbl := bcl_len b
 have hs : -1 ≤ saysS s := by
  rcases says_cases s with hs | hs | ⟨_, hs | hs | hs | hs | hs | hs | hs | hs⟩ <;> omega
 refine PCall.of_sound tok mixed fn57 (Nat.le_of_ble_eq_true rfl) ?_
 refine Sound.seq tok mixed ?_
 (conv => whnf); repeat' ((with_reducible refine Box.mk ?_) <;> conv => whnf)
 refine Sound.seq tok mixed ?_
 (conv => whnf); (repeat' ((first | (with_reducible refine Box.mk ?_) | ((with_reducible show ACall _ _ _ _ _); refine ACall.of_pure (by assumption) (by rfl) ?_) | fail) <;> conv => whnf))
 refine Sound.seq tok mixed ?_
 (conv => whnf); (repeat' ((with_reducible first | refine Box.mk ?_ | refine And.intro (fun _ => ?_) (fun _ => ?_) | fail) <;> conv => whnf))
 all_goals try (exfalso; omega)
 all_goals rfl
theorem xSet_0 (s : Sc) (b : Bs) (r : Rc) (h : saysS s = 0) (hm : ¬ (s.len ≠ 65535 ∧ (b.length : Int) ≠ s.len)) : PCall P 57 [rcv r, sv s, .sl (bcl b)] (.tup [rcv r, .int .i64 0]) := by
 have q1 := xfSays_ok s
 rw [h] at q1
 have hbl := bcl_len b
 refine PCall.of_awp tok mixed fn57 (Nat.le_of_ble_eq_true rfl) ?_
 (conv => whnf); (repeat' ((first | (with_reducible first | refine Box.mk ?_ | refine And.intro (fun _ => ?_) (fun _ => ?_) | fail) | ((with_reducible show ACall _ _ _ _ _); refine ACall.of_pure (by assumption) (by rfl) ?_) | fail) <;> conv => whnf))
 all_goals try (exfalso; omega)
 all_goals rfl
theorem xSet_1 (s : Sc) (b : Bs) (r : Rc) (h : saysS s = 1) (hm : ¬ (s.len ≠ 65535 ∧ (b.length : Int) ≠ s.len)) (hl : b.length ≤ 8) : PCall P 57 [rcv r, sv s, .sl (bcl b)] (.tup [rcv { r with by_ := valB b }, .int .i64 0]) := by
 have q1 := xfSays_ok s
 rw [h] at q1
 have hbl := bcl_len b
 have q2 := xNumber_ok b hl
 generalize valB b = n at *
 refine PCall.of_awp tok mixed fn57 (Nat.le_of_ble_eq_true rfl) ?_
 (conv => whnf); (repeat' ((first | (with_reducible first | refine Box.mk ?_ | refine And.intro (fun _ => ?_) (fun _ => ?_) | fail) | ((with_reducible show ACall _ _ _ _ _); refine ACall.of_pure (by assumption) (by rfl) ?_) | fail) <;> conv => whnf))
 all_goals try (exfalso; omega)
 all_goals rfl
theorem xSet_2 (s : Sc) (b : Bs) (r : Rc) (h : saysS s = 2) (hm : ¬ (s.len ≠ 65535 ∧ (b.length : Int) ≠ s.len)) (hl : b.length ≤ 8) : PCall P 57 [rcv r, sv s, .sl (bcl b)] (.tup [rcv { r with pk := valB b }, .int .i64 0]) := by
 have q1 := xfSays_ok s
 rw [h] at q1
 have hbl := bcl_len b
 have q2 := xNumber_ok b hl
 generalize valB b = n at *
 refine PCall.of_awp tok mixed fn57 (Nat.le_of_ble_eq_true rfl) ?_
 (conv => whnf); (repeat' ((first | (with_reducible first | refine Box.mk ?_ | refine And.intro (fun _ => ?_) (fun _ => ?_) | fail) | ((with_reducible show ACall _ _ _ _ _); refine ACall.of_pure (by assumption) (by rfl) ?_) | fail) <;> conv => whnf))
 all_goals try (exfalso; omega)
 all_goals rfl
theorem xSet_3 (s : Sc) (b : Bs) (r : Rc) (h : saysS s = 3) (hs : s.len = 4) (hl : b.length = 4) : PCall P 57 [rcv r, sv s, .sl (bcl b)] (.tup [rcv { r with a0 := fourK b }, .int .i64 0]) := by
 have q1 := xfSays_ok s
 rw [h] at q1
 have hbl := bcl_len b
 have q2 := xNumber_ok b (by omega)
 have hv : valB b < 4294967296 := by have := valB_lt b; rw [hl] at this; exact this
 have q3 := rFour_ok (valB b) hv
 have hw := wrap_u32 (n := (valB b : Nat)) (by omega) (by omega)
 rw [← hw] at q3
 unfold fourK
 generalize valB b = n at *
 refine PCall.of_awp tok mixed fn57 (Nat.le_of_ble_eq_true rfl) ?_
 (conv => whnf); (repeat' ((first | (with_reducible first | refine Box.mk ?_ | refine And.intro (fun _ => ?_) (fun _ => ?_) | fail) | ((with_reducible show ACall _ _ _ _ _); refine ACall.of_pure (by assumption) (by rfl) ?_) | ((with_reducible show _ ∧ _ ∧ _); refine ⟨by omega, by omega, ?_⟩) | fail) <;> conv => whnf))
 all_goals try (exfalso; omega)
 refine ⟨by decide, by decide, ?_⟩
 (conv => whnf); (repeat' ((with_reducible first | refine Box.mk ?_ | refine And.intro (fun _ => ?_) (fun _ => ?_) | fail) <;> conv => whnf))
 all_goals try (exfalso; omega)
 all_goals rfl
theorem xSet_4 (s : Sc) (b : Bs) (r : Rc) (h : saysS s = 4) (hs : s.len = 4) (hl : b.length = 4) : PCall P 57 [rcv r, sv s, .sl (bcl b)] (.tup [rcv { r with a1 := fourK b }, .int .i64 0]) := by
 have q1 := xfSays_ok s
 rw [h] at q1
 have hbl := bcl_len b
 have q2 := xNumber_ok b (by omega)
 have hv : valB b < 4294967296 := by have := valB_lt b; rw [hl] at this; exact this
 have q3 := rFour_ok (valB b) hv
 have hw := wrap_u32 (n := (valB b : Nat)) (by omega) (by omega)
 rw [← hw] at q3
 unfold fourK
 generalize valB b = n at *
 refine PCall.of_awp tok mixed fn57 (Nat.le_of_ble_eq_true rfl) ?_
 (conv => whnf); (repeat' ((first | (with_reducible first | refine Box.mk ?_ | refine And.intro (fun _ => ?_) (fun _ => ?_) | fail) | ((with_reducible show ACall _ _ _ _ _); refine ACall.of_pure (by assumption) (by rfl) ?_) | ((with_reducible show _ ∧ _ ∧ _); refine ⟨by omega, by omega, ?_⟩) | fail) <;> conv => whnf))
 all_goals try (exfalso; omega)
 refine ⟨by decide, by decide, ?_⟩
 (conv => whnf); (repeat' ((with_reducible first | refine Box.mk ?_ | refine And.intro (fun _ => ?_) (fun _ => ?_) | fail) <;> conv => whnf))
 all_goals try (exfalso; omega)
 all_goals rfl
theorem bcl_lo (b : Bs) (n : Nat) : ((bcl b).take n).drop 0 = bcl (b.take n) := by rw [List.drop_zero, bcl, bcl, List.map_take]
theorem bcl_hi (b : Bs) (n : Nat) : ((bcl b).take (bcl b).length).drop n = bcl (b.drop n) := by rw [List.take_length, bcl, bcl, List.map_drop]
theorem xSet_5 (s : Sc) (b : Bs) (r : Rc) (h : saysS s = 5) (hs : s.len = 16) (hl : b.length = 16) : PCall P 57 [rcv r, sv s, .sl (bcl b)] (.tup [rcv { r with a0 := sixK b }, .int .i64 0]) := by
 have q1 := xfSays_ok s
 rw [h] at q1
 have hbl := bcl_len b
 have q2 := xNumber_ok (b.take 8) (by rw [List.length_take]; omega)
 have q3 := xNumber_ok (b.drop 8) (by rw [List.length_drop]; omega)
 obtain ⟨h1, h2, h3⟩ := val16 (b.take 8) (b.drop 8) (by rw [List.length_take]; omega) (by rw [List.length_drop]; omega)
 rw [List.take_append_drop] at h1 h2 h3
 rw [← bcl_lo] at q2
 rw [← bcl_hi] at q3
 have q4 := rSix_ok (valB b)
 rw [h2, h3] at q4
 unfold sixK
 refine PCall.of_awp tok mixed fn57 (Nat.le_of_ble_eq_true rfl) ?_
 (conv => whnf); (repeat' ((first | (with_reducible first | refine Box.mk ?_ | refine And.intro (fun _ => ?_) (fun _ => ?_) | fail) | ((with_reducible show ACall _ _ _ _ _); refine ACall.of_pure (by assumption) (by rfl) ?_) | fail) <;> conv => whnf))
 all_goals try (exfalso; omega)
 refine ⟨[], by kernel_rfl, ?_⟩
 (conv => whnf); (repeat' ((first | (with_reducible refine Box.mk ?_) | ((with_reducible show _ ∧ _ ∧ _); refine ⟨by omega, by omega, ?_⟩) | fail) <;> conv => whnf))
 refine ⟨bcl_all _, ?_⟩
 (conv => whnf); (repeat' ((first | (with_reducible refine Box.mk ?_) | ((with_reducible show Exists _); refine ⟨_, ACall.of_pure (by assumption) (by rfl) ⟨rfl, rfl⟩, ?_⟩) | ((with_reducible show _ ∧ _ ∧ _); refine ⟨by omega, by omega, ?_⟩) | fail) <;> conv => whnf))
 refine ⟨bcl_all _, ?_⟩
 (conv => whnf); (repeat' ((first | (with_reducible refine Box.mk ?_) | ((with_reducible show Exists _); refine ⟨_, ACall.of_pure (by assumption) (by rfl) ⟨rfl, rfl⟩, ?_⟩) | fail) <;> conv => whnf))
 refine ⟨by decide, by decide, ?_⟩
 (conv => whnf); (repeat' ((with_reducible first | refine Box.mk ?_ | refine And.intro (fun _ => ?_) (fun _ => ?_) | fail) <;> conv => whnf))
 all_goals try (exfalso; omega)
 all_goals rfl
theorem xSet_6 (s : Sc) (b : Bs) (r : Rc) (h : saysS s = 6) (hs : s.len = 16) (hl : b.length = 16) : PCall P 57 [rcv r, sv s, .sl (bcl b)] (.tup [rcv { r with a1 := sixK b }, .int .i64 0]) := by
 have q1 := xfSays_ok s
 rw [h] at q1
 have hbl := bcl_len b
 have q2 := xNumber_ok (b.take 8) (by rw [List.length_take]; omega)
 have q3 := xNumber_ok (b.drop 8) (by rw [List.length_drop]; omega)
 obtain ⟨h1, h2, h3⟩ := val16 (b.take 8) (b.drop 8) (by rw [List.length_take]; omega) (by rw [List.length_drop]; omega)
 rw [List.take_append_drop] at h1 h2 h3
 rw [← bcl_lo] at q2
 rw [← bcl_hi] at q3
 have q4 := rSix_ok (valB b)
 rw [h2, h3] at q4
 unfold sixK
 refine PCall.of_awp tok mixed fn57 (Nat.le_of_ble_eq_true rfl) ?_
 (conv => whnf); (repeat' ((first | (with_reducible first | refine Box.mk ?_ | refine And.intro (fun _ => ?_) (fun _ => ?_) | fail) | ((with_reducible show ACall _ _ _ _ _); refine ACall.of_pure (by assumption) (by rfl) ?_) | fail) <;> conv => whnf))
 all_goals try (exfalso; omega)
 refine ⟨[], by kernel_rfl, ?_⟩
 (conv => whnf); (repeat' ((first | (with_reducible refine Box.mk ?_) | ((with_reducible show _ ∧ _ ∧ _); refine ⟨by omega, by omega, ?_⟩) | fail) <;> conv => whnf))
 refine ⟨bcl_all _, ?_⟩
 (conv => whnf); (repeat' ((first | (with_reducible refine Box.mk ?_) | ((with_reducible show Exists _); refine ⟨_, ACall.of_pure (by assumption) (by rfl) ⟨rfl, rfl⟩, ?_⟩) | ((with_reducible show _ ∧ _ ∧ _); refine ⟨by omega, by omega, ?_⟩) | fail) <;> conv => whnf))
 refine ⟨bcl_all _, ?_⟩
 (conv => whnf); (repeat' ((first | (with_reducible refine Box.mk ?_) | ((with_reducible show Exists _); refine ⟨_, ACall.of_pure (by assumption) (by rfl) ⟨rfl, rfl⟩, ?_⟩) | fail) <;> conv => whnf))
 refine ⟨by decide, by decide, ?_⟩
 (conv => whnf); (repeat' ((with_reducible first | refine Box.mk ?_ | refine And.intro (fun _ => ?_) (fun _ => ?_) | fail) <;> conv => whnf))
 all_goals try (exfalso; omega)
 all_goals rfl
theorem pc_rnil {f : FuncId} {args : List AV} {r : AV} (h : PCall P f args r) : PCall P f args (mpV nlN r) := by
 unfold PCall at *
 refine ⟨h.1, fun M0 w vs h1 h2 hv => Calls.mono (h.2 M0 w vs h1 h2 hv) fun e w' he => ?_⟩
 obtain ⟨v, rfl, h3, h4⟩ := he
 exact ⟨v, rfl, h3, mpV_rv (fun x v hx => nlN_rv (fun _ _ h => h) hx) h4⟩
theorem split_labs (p : Bs) (h : p.length < 4294967281) : PCall P 86 [.str p] (.tup [.sl (strs (labs p)), .bool (okPath p)]) := by
 have := pc_rnil (refSplit_ok p h)
 rcases path_cases p with ⟨h1, h2⟩ | ⟨h1, _⟩
 ·rw [h1] at this; rw [h2]; exact this
 ·rw [h1] at this; exact this
def cdr15 : Code → Code
 | .seq _ y => y
 | c => c
def car15 : Code → Code
 | .seq x _ => x
 | .cond _ x _ => x
 | c => c
noncomputable def setC15 (n : Nat) : Code := n.rec (Tryz.f57.body.getD .skip) fun _ c => cdr15 c
noncomputable def set15 : Code := cdr15 (cdr15 (car15 (cdr15 (car15 (setC15 7)))))
def S15 (r1 : Rc) (e : Int) : AQ := afterQ (fun s' => Sound P Tryz.f57.ntmps none 0 (setC15 8) (PPost ty Tryz.f57.results.toList (.tup [rcv r1, .int .i64 e])) s') (PPost ty Tryz.f57.results.toList (.tup [rcv r1, .int .i64 e]))
def ZR : List AV := [.int .i64 0, .int .i64 0, .int .u64 0, .int .u64 0, .str [], .int .i64 0, .int .i64 0, .int .u64 0, .int .u64 0, .str [], .int .i64 0, .int .i64 0, .int .u64 0, .int .u64 0, .str [], .int .i64 0, .int .i64 0, .int .u64 0, .int .u64 0, .str [], .int .u64 0, .int .u64 0]
theorem z_cells : rcc zeroR = ZR := by kernel_rfl
theorem xTail_7 (s : Sc) (b : Bs) (r : Rc) (hb : b.length < 4294967281) (k : Nat) (hk : k ≤ b.length) (hcut : b.take k = pathT s b) :
  Sound P Tryz.f57.ntmps none 0 set15 (S15 (bif okPath (pathT s b) then { r with p0 := ⟨3, ((strs (labs (pathT s b))).length : Int), 0, pathT s b⟩ } else zeroR) (bif okPath (pathT s b) then 0 else 3)) ⟨envL [(2, .sl (bcl b)), (3, .ptr 0 0), (4, .ptr 1 0), (6, .ptr 2 0), (8, .int .i64 7), (9, .int .i64 (k : Int))], [.box 55 (rcc r), .box 82 (scc s), .box 55 ZR]⟩ := by
 have hbl := bcl_len b
 have hcut2 : ((bcl b).take (k : Int).toNat).drop 0 = bcl (pathT s b) := by rw [bcl_lo, Int.toNat_natCast, hcut]
 have q2 := fun _ : Unit => split_labs (pathT s b) (Nat.lt_of_le_of_lt (pathT_len s b) hb)
 generalize labs (pathT s b) = ll at *
 unfold S15
 refine Sound.awp tok mixed ?_
 (conv => whnf); (repeat' ((first | (with_reducible refine Box.mk ?_) | ((with_reducible show _ ∧ _ ∧ _); refine ⟨by omega, by omega, ?_⟩) | fail) <;> conv => whnf))
 refine ⟨bcl_all _, ?_⟩
 rw [hcut2]
 (conv => whnf); repeat' ((with_reducible refine Box.mk ?_) <;> conv => whnf)
 refine ⟨_, rfl, ?_⟩
 (conv => whnf); repeat' ((with_reducible refine Box.mk ?_) <;> conv => whnf)
 refine ACall.of_pure (q2 ()) rfl ?_
 generalize okPath (pathT s b) = ok at *
 cases ok
 ·(conv => whnf); repeat' ((with_reducible refine Box.mk ?_) <;> conv => whnf)
  show _ = AV.tup [.agg (rcc zeroR), _]
  rw [z_cells]
  rfl
 ·(conv => whnf); (repeat' ((first | (with_reducible refine Box.mk ?_) | ((with_reducible show _ ∧ _ ∧ _); refine ⟨by omega, by omega, ?_⟩) | fail) <;> conv => whnf))
  refine ⟨bcl_all _, ?_⟩
  rw [hcut2]
  (conv => whnf); repeat' ((with_reducible refine Box.mk ?_) <;> conv => whnf)
  refine ⟨_, rfl, ?_⟩
  (conv => whnf); repeat' ((with_reducible refine Box.mk ?_) <;> conv => whnf)
  refine ⟨by decide, by decide, ?_⟩
  (conv => whnf); repeat' ((with_reducible refine Box.mk ?_) <;> conv => whnf)
  refine Sound.awp tok mixed ?_
  (conv => whnf); repeat' ((with_reducible refine Box.mk ?_) <;> conv => whnf)
  unfold rcv rcc
  dsimp only [cond_true]
  rw [Nat.zero_div, Nat.zero_mod]
  rfl
set_option maxHeartbeats 1000000 in
theorem xSet_7 (s : Sc) (b : Bs) (r : Rc) (h : saysS s = 7) (hm : ¬ (s.len ≠ 65535 ∧ (b.length : Int) ≠ s.len)) (hb : b.length < 4294967281) : PCall P 57 [rcv r, sv s, .sl (bcl b)] (.tup [rcv (bif okPath (pathT s b) then { r with p0 := ⟨3, ((strs (labs (pathT s b))).length : Int), 0, pathT s b⟩ } else zeroR), .int .i64 (bif okPath (pathT s b) then 0 else 3)]) := by
  have q1 := xfSays_ok s
  rw [h] at q1
  have hbl := bcl_len b
  have hT := fun k hk hc => xTail_7 s b r hb k hk hc
  generalize hR : (bif okPath (pathT s b) then { r with p0 := ⟨3, ((strs (labs (pathT s b))).length : Int), 0, pathT s b⟩ } else zeroR) = R at *
  generalize hE : (bif okPath (pathT s b) then 0 else 3) = E at *
  clear hR hE
  unfold S15 at hT
  refine PCall.of_sound tok mixed fn57 (Nat.le_of_ble_eq_true rfl) ?_
  refine Sound.seq tok mixed ?_
  (conv => whnf); repeat' ((with_reducible refine Box.mk ?_) <;> conv => whnf)
  refine Sound.seq tok mixed ?_
  (conv => whnf); (repeat' ((first | (with_reducible refine Box.mk ?_) | ((with_reducible show ACall _ _ _ _ _); refine ACall.of_pure (by assumption) (by rfl) ?_) | fail) <;> conv => whnf))
  refine Sound.seq tok mixed ?_
  (conv => whnf); (repeat' ((with_reducible first | refine Box.mk ?_ | refine And.intro (fun _ => ?_) (fun _ => ?_) | fail) <;> conv => whnf))
  all_goals try (exfalso; omega)
  all_goals (
    refine Sound.seq tok mixed ?_
    (conv => whnf); (repeat' ((with_reducible first | refine Box.mk ?_ | refine And.intro (fun _ => ?_) (fun _ => ?_) | fail) <;> conv => whnf))
    all_goals try (exfalso; omega)
    refine Sound.seq tok mixed ?_
    (conv => whnf); (repeat' ((with_reducible first | refine Box.mk ?_ | refine And.intro (fun _ => ?_) (fun _ => ?_) | fail) <;> conv => whnf))
    all_goals try (exfalso; omega)
    refine Sound.seq tok mixed ?_
    (conv => whnf); (repeat' ((with_reducible first | refine Box.mk ?_ | refine And.intro (fun _ => ?_) (fun _ => ?_) | fail) <;> conv => whnf))
    all_goals try (exfalso; omega)
    refine Sound.seq tok mixed ?_
    (conv => whnf); (repeat' ((with_reducible first | refine Box.mk ?_ | refine And.intro (fun _ => ?_) (fun _ => ?_) | fail) <;> conv => whnf))
    all_goals try (exfalso; omega)
    refine Sound.seqS ?_
    refine Sound.seq tok mixed ?_
    (conv => whnf); (repeat' ((with_reducible first | refine Box.mk ?_ | refine And.intro (fun _ => ?_) (fun _ => ?_) | fail) <;> conv => whnf))
    all_goals try (exfalso; omega)
    refine Sound.condS ?_
    conv => whnf
    refine Sound.seq tok mixed ?_
    (conv => whnf); repeat' ((with_reducible refine Box.mk ?_) <;> conv => whnf)
    refine Sound.seq tok mixed ?_
    (conv => whnf); (repeat' ((with_reducible first | refine Box.mk ?_ | refine And.intro (fun _ => ?_) (fun _ => ?_) | refine (forceH_eq _ _).mpr ?_ | fail) <;> conv => whnf))
    refine aloop (fun k : Nat => k ≤ b.length ∧ (if s.len = 65535 then k = b.length else trimN b k = trimN b b.length)) (fun k => ⟨envL [(2, .sl (bcl b)), (3, .ptr 0 0), (4, .ptr 1 0), (6, .ptr 2 0), (8, .int .i64 7), (9, .int .i64 (k : Int))], [.box 55 (rcc r), .box 82 (scc s), .box 55 ZR]⟩) (fun k => k) b.length ⟨Nat.le_refl _, by split <;> rfl⟩ (weak_ren_to [(0, true), (1, true), (2, true)] rfl rfl rfl ⟨rfl, rfl, rfl, rfl, rfl, congrArg (fun x : Nat => AV.int .i64 (x : Int)) hbl, trivial⟩) ?_
    rintro k ⟨hk, ht⟩
    have hk : k ≤ b.length := hk
    by_cases h6 : s.len = 65535 <;> try (exfalso; omega)
    all_goals first
    | (rw [if_pos h6] at ht
       have ht : k = b.length := ht
       (conv => whnf); (repeat' ((with_reducible first | refine Box.mk ?_ | refine And.intro (fun _ => ?_) (fun _ => ?_) | fail) <;> conv => whnf))
       all_goals try (exfalso; omega)
       exact Sound.weak (weak_ren_to (l := [(2, .sl (bcl b)), (3, .ptr 0 0), (4, .ptr 1 0), (6, .ptr 2 0), (8, .int .i64 7), (9, .int .i64 (k : Int))]) [(0, true), (1, true), (2, true)] rfl rfl rfl ⟨rfl, rfl, rfl, rfl, rfl, rfl, trivial⟩) (hT k hk (by unfold pathT; rw [if_pos h6, ht, List.take_length])))
    | (rw [if_neg h6] at ht
       have ht : trimN b k = trimN b b.length := ht
       cases k with
       | zero =>
         (conv => whnf); (repeat' ((with_reducible first | refine Box.mk ?_ | refine And.intro (fun _ => ?_) (fun _ => ?_) | fail) <;> conv => whnf))
         all_goals try (exfalso; omega)
         exact Sound.weak (weak_ren_to (l := [(2, .sl (bcl b)), (3, .ptr 0 0), (4, .ptr 1 0), (6, .ptr 2 0), (8, .int .i64 7), (9, .int .i64 ((0 : Nat) : Int))]) [(0, true), (1, true), (2, true)] rfl rfl rfl ⟨rfl, rfl, rfl, rfl, rfl, rfl, trivial⟩) (hT 0 hk (by unfold pathT trimZ; rw [if_neg h6, ← ht]; rfl))
       | succ j =>
         have hg0 : b[j]? = some b[j] := List.getElem?_eq_getElem (by omega)
         have hg := bcl_get hg0
         have hz : ((b[j].toNat : Int) = 0) ↔ b[j] = 0 := by
           constructor
           · intro h; exact UInt8.toNat_inj.1 (by simpa using h)
           · intro h; rw [h]; rfl
         have hw : IntKind.i64.wrap (((j + 1 : Nat) : Int) - 1) = ((j : Nat) : Int) := by rw [wrap_i64 (by omega) (by omega)]; omega
         generalize b[j] = c at *
         (conv => whnf); (repeat' ((with_reducible first | refine Box.mk ?_ | refine And.intro (fun _ => ?_) (fun _ => ?_) | fail) <;> conv => whnf))
         all_goals try (exfalso; omega)
         rw [hw]
         refine ⟨by omega, _, hg, rfl, ?_⟩
         (conv => whnf); (repeat' ((with_reducible first | refine Box.mk ?_ | refine And.intro (fun _ => ?_) (fun _ => ?_) | fail) <;> conv => whnf))
         · rename_i h0
           have hc := hz.1 h0
           refine ⟨j, ⟨by omega, ?_⟩, by omega, weak_ren_to [(0, true), (1, true), (2, true)] rfl rfl rfl ⟨rfl, rfl, rfl, rfl, rfl, congrArg (AV.int .i64) hw, trivial⟩⟩
           rw [if_neg h6, ← ht]
           show trimN b j = if b[j]? = some 0 then trimN b j else j + 1
           rw [if_pos (by rw [hg0, hc])]
         · rename_i h0
           refine Sound.weak (weak_ren_to (l := [(2, .sl (bcl b)), (3, .ptr 0 0), (4, .ptr 1 0), (6, .ptr 2 0), (8, .int .i64 7), (9, .int .i64 ((j + 1 : Nat) : Int))]) [(0, true), (1, true), (2, true)] rfl rfl rfl ⟨rfl, rfl, rfl, rfl, rfl, rfl, trivial⟩) (hT (j + 1) hk ?_)
           unfold pathT trimZ
           rw [if_neg h6, ← ht]
           show _ = b.take (if b[j]? = some 0 then trimN b j else j + 1)
           rw [if_neg (fun h => h0 (hz.2 (by rw [hg0] at h; exact Option.some.inj h)))]))
theorem xTail_8 (s : Sc) (b : Bs) (r : Rc) (hb : b.length < 4294967281) (k : Nat) (hk : k ≤ b.length) (hcut : b.take k = pathT s b) :
  Sound P Tryz.f57.ntmps none 0 set15 (S15 (bif okPath (pathT s b) then { r with p1 := ⟨3, ((strs (labs (pathT s b))).length : Int), 0, pathT s b⟩ } else zeroR) (bif okPath (pathT s b) then 0 else 3)) ⟨envL [(2, .sl (bcl b)), (3, .ptr 0 0), (4, .ptr 1 0), (6, .ptr 2 0), (8, .int .i64 8), (9, .int .i64 (k : Int))], [.box 55 (rcc r), .box 82 (scc s), .box 55 ZR]⟩ := by
 have hbl := bcl_len b
 have hcut2 : ((bcl b).take (k : Int).toNat).drop 0 = bcl (pathT s b) := by rw [bcl_lo, Int.toNat_natCast, hcut]
 have q2 := fun _ : Unit => split_labs (pathT s b) (Nat.lt_of_le_of_lt (pathT_len s b) hb)
 generalize labs (pathT s b) = ll at *
 unfold S15
 refine Sound.awp tok mixed ?_
 (conv => whnf); (repeat' ((first | (with_reducible refine Box.mk ?_) | ((with_reducible show _ ∧ _ ∧ _); refine ⟨by omega, by omega, ?_⟩) | fail) <;> conv => whnf))
 refine ⟨bcl_all _, ?_⟩
 rw [hcut2]
 (conv => whnf); repeat' ((with_reducible refine Box.mk ?_) <;> conv => whnf)
 refine ⟨_, rfl, ?_⟩
 (conv => whnf); repeat' ((with_reducible refine Box.mk ?_) <;> conv => whnf)
 refine ACall.of_pure (q2 ()) rfl ?_
 generalize okPath (pathT s b) = ok at *
 cases ok
 ·(conv => whnf); repeat' ((with_reducible refine Box.mk ?_) <;> conv => whnf)
  show _ = AV.tup [.agg (rcc zeroR), _]
  rw [z_cells]
  rfl
 ·(conv => whnf); (repeat' ((first | (with_reducible refine Box.mk ?_) | ((with_reducible show _ ∧ _ ∧ _); refine ⟨by omega, by omega, ?_⟩) | fail) <;> conv => whnf))
  refine ⟨bcl_all _, ?_⟩
  rw [hcut2]
  (conv => whnf); repeat' ((with_reducible refine Box.mk ?_) <;> conv => whnf)
  refine ⟨_, rfl, ?_⟩
  (conv => whnf); repeat' ((with_reducible refine Box.mk ?_) <;> conv => whnf)
  refine ⟨by decide, by decide, ?_⟩
  (conv => whnf); repeat' ((with_reducible refine Box.mk ?_) <;> conv => whnf)
  refine Sound.awp tok mixed ?_
  (conv => whnf); repeat' ((with_reducible refine Box.mk ?_) <;> conv => whnf)
  unfold rcv rcc
  dsimp only [cond_true]
  rw [Nat.zero_div, Nat.zero_mod]
  rfl
set_option maxHeartbeats 1000000 in
theorem xSet_8 (s : Sc) (b : Bs) (r : Rc) (h : saysS s = 8) (hm : ¬ (s.len ≠ 65535 ∧ (b.length : Int) ≠ s.len)) (hb : b.length < 4294967281) : PCall P 57 [rcv r, sv s, .sl (bcl b)] (.tup [rcv (bif okPath (pathT s b) then { r with p1 := ⟨3, ((strs (labs (pathT s b))).length : Int), 0, pathT s b⟩ } else zeroR), .int .i64 (bif okPath (pathT s b) then 0 else 3)]) := by
  have q1 := xfSays_ok s
  rw [h] at q1
  have hbl := bcl_len b
  have hT := fun k hk hc => xTail_8 s b r hb k hk hc
  generalize hR : (bif okPath (pathT s b) then { r with p1 := ⟨3, ((strs (labs (pathT s b))).length : Int), 0, pathT s b⟩ } else zeroR) = R at *
  generalize hE : (bif okPath (pathT s b) then 0 else 3) = E at *
  clear hR hE
  unfold S15 at hT
  refine PCall.of_sound tok mixed fn57 (Nat.le_of_ble_eq_true rfl) ?_
  refine Sound.seq tok mixed ?_
  (conv => whnf); repeat' ((with_reducible refine Box.mk ?_) <;> conv => whnf)
  refine Sound.seq tok mixed ?_
  (conv => whnf); (repeat' ((first | (with_reducible refine Box.mk ?_) | ((with_reducible show ACall _ _ _ _ _); refine ACall.of_pure (by assumption) (by rfl) ?_) | fail) <;> conv => whnf))
  refine Sound.seq tok mixed ?_
  (conv => whnf); (repeat' ((with_reducible first | refine Box.mk ?_ | refine And.intro (fun _ => ?_) (fun _ => ?_) | fail) <;> conv => whnf))
  all_goals try (exfalso; omega)
  all_goals (
    refine Sound.seq tok mixed ?_
    (conv => whnf); (repeat' ((with_reducible first | refine Box.mk ?_ | refine And.intro (fun _ => ?_) (fun _ => ?_) | fail) <;> conv => whnf))
    all_goals try (exfalso; omega)
    refine Sound.seq tok mixed ?_
    (conv => whnf); (repeat' ((with_reducible first | refine Box.mk ?_ | refine And.intro (fun _ => ?_) (fun _ => ?_) | fail) <;> conv => whnf))
    all_goals try (exfalso; omega)
    refine Sound.seq tok mixed ?_
    (conv => whnf); (repeat' ((with_reducible first | refine Box.mk ?_ | refine And.intro (fun _ => ?_) (fun _ => ?_) | fail) <;> conv => whnf))
    all_goals try (exfalso; omega)
    refine Sound.seq tok mixed ?_
    (conv => whnf); (repeat' ((with_reducible first | refine Box.mk ?_ | refine And.intro (fun _ => ?_) (fun _ => ?_) | fail) <;> conv => whnf))
    all_goals try (exfalso; omega)
    refine Sound.seqS ?_
    refine Sound.seq tok mixed ?_
    (conv => whnf); (repeat' ((with_reducible first | refine Box.mk ?_ | refine And.intro (fun _ => ?_) (fun _ => ?_) | fail) <;> conv => whnf))
    all_goals try (exfalso; omega)
    refine Sound.condS ?_
    conv => whnf
    refine Sound.seq tok mixed ?_
    (conv => whnf); repeat' ((with_reducible refine Box.mk ?_) <;> conv => whnf)
    refine Sound.seq tok mixed ?_
    (conv => whnf); (repeat' ((with_reducible first | refine Box.mk ?_ | refine And.intro (fun _ => ?_) (fun _ => ?_) | refine (forceH_eq _ _).mpr ?_ | fail) <;> conv => whnf))
    refine aloop (fun k : Nat => k ≤ b.length ∧ (if s.len = 65535 then k = b.length else trimN b k = trimN b b.length)) (fun k => ⟨envL [(2, .sl (bcl b)), (3, .ptr 0 0), (4, .ptr 1 0), (6, .ptr 2 0), (8, .int .i64 8), (9, .int .i64 (k : Int))], [.box 55 (rcc r), .box 82 (scc s), .box 55 ZR]⟩) (fun k => k) b.length ⟨Nat.le_refl _, by split <;> rfl⟩ (weak_ren_to [(0, true), (1, true), (2, true)] rfl rfl rfl ⟨rfl, rfl, rfl, rfl, rfl, congrArg (fun x : Nat => AV.int .i64 (x : Int)) hbl, trivial⟩) ?_
    rintro k ⟨hk, ht⟩
    have hk : k ≤ b.length := hk
    by_cases h6 : s.len = 65535 <;> try (exfalso; omega)
    all_goals first
    | (rw [if_pos h6] at ht
       have ht : k = b.length := ht
       (conv => whnf); (repeat' ((with_reducible first | refine Box.mk ?_ | refine And.intro (fun _ => ?_) (fun _ => ?_) | fail) <;> conv => whnf))
       all_goals try (exfalso; omega)
       exact Sound.weak (weak_ren_to (l := [(2, .sl (bcl b)), (3, .ptr 0 0), (4, .ptr 1 0), (6, .ptr 2 0), (8, .int .i64 8), (9, .int .i64 (k : Int))]) [(0, true), (1, true), (2, true)] rfl rfl rfl ⟨rfl, rfl, rfl, rfl, rfl, rfl, trivial⟩) (hT k hk (by unfold pathT; rw [if_pos h6, ht, List.take_length])))
    | (rw [if_neg h6] at ht
       have ht : trimN b k = trimN b b.length := ht
       cases k with
       | zero =>
         (conv => whnf); (repeat' ((with_reducible first | refine Box.mk ?_ | refine And.intro (fun _ => ?_) (fun _ => ?_) | fail) <;> conv => whnf))
         all_goals try (exfalso; omega)
         exact Sound.weak (weak_ren_to (l := [(2, .sl (bcl b)), (3, .ptr 0 0), (4, .ptr 1 0), (6, .ptr 2 0), (8, .int .i64 8), (9, .int .i64 ((0 : Nat) : Int))]) [(0, true), (1, true), (2, true)] rfl rfl rfl ⟨rfl, rfl, rfl, rfl, rfl, rfl, trivial⟩) (hT 0 hk (by unfold pathT trimZ; rw [if_neg h6, ← ht]; rfl))
       | succ j =>
         have hg0 : b[j]? = some b[j] := List.getElem?_eq_getElem (by omega)
         have hg := bcl_get hg0
         have hz : ((b[j].toNat : Int) = 0) ↔ b[j] = 0 := by
           constructor
           · intro h; exact UInt8.toNat_inj.1 (by simpa using h)
           · intro h; rw [h]; rfl
         have hw : IntKind.i64.wrap (((j + 1 : Nat) : Int) - 1) = ((j : Nat) : Int) := by rw [wrap_i64 (by omega) (by omega)]; omega
         generalize b[j] = c at *
         (conv => whnf); (repeat' ((with_reducible first | refine Box.mk ?_ | refine And.intro (fun _ => ?_) (fun _ => ?_) | fail) <;> conv => whnf))
         all_goals try (exfalso; omega)
         rw [hw]
         refine ⟨by omega, _, hg, rfl, ?_⟩
         (conv => whnf); (repeat' ((with_reducible first | refine Box.mk ?_ | refine And.intro (fun _ => ?_) (fun _ => ?_) | fail) <;> conv => whnf))
         · rename_i h0
           have hc := hz.1 h0
           refine ⟨j, ⟨by omega, ?_⟩, by omega, weak_ren_to [(0, true), (1, true), (2, true)] rfl rfl rfl ⟨rfl, rfl, rfl, rfl, rfl, congrArg (AV.int .i64) hw, trivial⟩⟩
           rw [if_neg h6, ← ht]
           show trimN b j = if b[j]? = some 0 then trimN b j else j + 1
           rw [if_pos (by rw [hg0, hc])]
         · rename_i h0
           refine Sound.weak (weak_ren_to (l := [(2, .sl (bcl b)), (3, .ptr 0 0), (4, .ptr 1 0), (6, .ptr 2 0), (8, .int .i64 8), (9, .int .i64 ((j + 1 : Nat) : Int))]) [(0, true), (1, true), (2, true)] rfl rfl rfl ⟨rfl, rfl, rfl, rfl, rfl, rfl, trivial⟩) (hT (j + 1) hk ?_)
           unfold pathT trimZ
           rw [if_neg h6, ← ht]
           show _ = b.take (if b[j]? = some 0 then trimN b j else j + 1)
           rw [if_neg (fun h => h0 (hz.2 (by rw [hg0] at h; exact Option.some.inj h)))]))
theorem xSet_ok (s : Sc) (b : Bs) (r : Rc) (hb : b.length < 4294967281) : PCall P 57 [rcv r, sv s, .sl (bcl b)] (.tup [rcv (setR s b r), .int .i64 (setE s b)]) := by
 by_cases hbad : saysS s = -1 ∨ (s.len ≠ 65535 ∧ (b.length : Int) ≠ s.len)
 ·have e1 : setE s b = 14 := by unfold setE; rw [if_pos hbad]
  have e2 : setR s b r = zeroR := by unfold setR; rw [e1, if_neg (by decide)]
  rw [e1, e2]
  exact xSet_bad s b r hbad
 ·have hm : ¬ (s.len ≠ 65535 ∧ (b.length : Int) ≠ s.len) := fun h => hbad (.inr h)
  have e0 : ¬ ((saysS s = 7 ∨ saysS s = 8) ∧ okPath (pathT s b) = false) → setE s b = 0 := fun h => by unfold setE; rw [if_neg hbad, if_neg h]
  have e3 : (saysS s = 7 ∨ saysS s = 8) ∧ okPath (pathT s b) = false → setE s b = 3 := fun h => by unfold setE; rw [if_neg hbad, if_pos h]
  rcases says_cases s with h | h | ⟨hR, h | h | h | h | h | h | h | h⟩
  ·exact absurd (.inl h) hbad
  ·have e1 := e0 (by rw [h]; rintro ⟨hc | hc, _⟩ <;> cases hc)
   have e2 : setR s b r = r := by unfold setR updR; rw [e1, if_pos rfl, h]; rfl
   rw [e1, e2]
   exact xSet_0 s b r h hm
  ·obtain ⟨h, h1, h2⟩ := h
   have e1 := e0 (by rw [h]; rintro ⟨hc | hc, _⟩ <;> cases hc)
   have e2 : setR s b r = { r with by_ := valB b } := by unfold setR updR; rw [e1, if_pos rfl, h]; rfl
   rw [e1, e2]
   exact xSet_1 s b r h hm (by omega)
  ·obtain ⟨h, h1, h2⟩ := h
   have e1 := e0 (by rw [h]; rintro ⟨hc | hc, _⟩ <;> cases hc)
   have e2 : setR s b r = { r with pk := valB b } := by unfold setR updR; rw [e1, if_pos rfl, h]; rfl
   rw [e1, e2]
   exact xSet_2 s b r h hm (by omega)
  ·obtain ⟨h, hl⟩ := h
   have ek : addrK b = fourK b := by unfold addrK; rw [if_pos (by omega)]
   have e1 := e0 (by rw [h]; rintro ⟨hc | hc, _⟩ <;> cases hc)
   have e2 : setR s b r = { r with a0 := fourK b } := by unfold setR updR; rw [e1, if_pos rfl, h]; rw [ek]; rfl
   rw [e1, e2]
   exact xSet_3 s b r h hl (by omega)
  ·obtain ⟨h, hl⟩ := h
   have ek : addrK b = fourK b := by unfold addrK; rw [if_pos (by omega)]
   have e1 := e0 (by rw [h]; rintro ⟨hc | hc, _⟩ <;> cases hc)
   have e2 : setR s b r = { r with a1 := fourK b } := by unfold setR updR; rw [e1, if_pos rfl, h]; rw [ek]; rfl
   rw [e1, e2]
   exact xSet_4 s b r h hl (by omega)
  ·obtain ⟨h, hl⟩ := h
   have ek : addrK b = sixK b := by unfold addrK; rw [if_neg (by omega)]
   have e1 := e0 (by rw [h]; rintro ⟨hc | hc, _⟩ <;> cases hc)
   have e2 : setR s b r = { r with a0 := sixK b } := by unfold setR updR; rw [e1, if_pos rfl, h]; rw [ek]; rfl
   rw [e1, e2]
   exact xSet_5 s b r h hl (by omega)
  ·obtain ⟨h, hl⟩ := h
   have ek : addrK b = sixK b := by unfold addrK; rw [if_neg (by omega)]
   have e1 := e0 (by rw [h]; rintro ⟨hc | hc, _⟩ <;> cases hc)
   have e2 : setR s b r = { r with a1 := sixK b } := by unfold setR updR; rw [e1, if_pos rfl, h]; rw [ek]; rfl
   rw [e1, e2]
   exact xSet_6 s b r h hl (by omega)
  ·have hq := xSet_7 s b r h hm hb
   cases ho : okPath (pathT s b)
   ·have e1 := e3 ⟨.inl h, ho⟩
    have e2 : setR s b r = zeroR := by unfold setR; rw [e1, if_neg (by decide)]
    rw [ho] at hq
    rw [e1, e2]
    exact hq
   ·have e1 := e0 (fun hc => by rw [ho] at hc; cases hc.2)
    have e2 : setR s b r = { r with p0 := ofPathK (pathT s b) } := by unfold setR updR; rw [e1, if_pos rfl, h]; rfl
    rw [ho] at hq
    rw [e1, e2]
    unfold ofPathK
    rw [← strs_len (labs (pathT s b))]
    exact hq
  ·have hq := xSet_8 s b r h hm hb
   cases ho : okPath (pathT s b)
   ·have e1 := e3 ⟨.inr h, ho⟩
    have e2 : setR s b r = zeroR := by unfold setR; rw [e1, if_neg (by decide)]
    rw [ho] at hq
    rw [e1, e2]
    exact hq
   ·have e1 := e0 (fun hc => by rw [ho] at hc; cases hc.2)
    have e2 : setR s b r = { r with p1 := ofPathK (pathT s b) } := by unfold setR updR; rw [e1, if_pos rfl, h]; rfl
    rw [ho] at hq
    rw [e1, e2]
    unfold ofPathK
    rw [← strs_len (labs (pathT s b))]
    exact hq
end Go.Proofs.YtnajpmepcffnaaaGreatDoor
end

section
/- The document's messages: records. -/
namespace Go.Proofs.YtnajpmepcffnaaaGreatDoor
open Go.Ve
attribute [local irreducible] Sound

structure RcOk (d : Rd (List Hd)) (k : Nat) : Prop where
 len : d.c.length ≤ 64
 right : ∀ h ∈ d.c, rightT h.t = true
 lost : d.lost + k ≤ 2000000000
 idle : d.idle + k ≤ 2000000000
 out : d.out.length + k ≤ 2000000000
def inRec (fs : List Sc) (b0 : Bs) (i : Nat) (f : Rc) (e re : Int) (bs : Bs) : Prop :=
 (e = 0 ∧ re = 0 ∧ recF fs b0 zeroR = recF (fs.drop i) bs f) ∨ (e ≠ 0 ∧ (recF fs b0 zeroR).2.1 = e)
theorem recF_at {fs : List Sc} {i : Nat} {s : Sc} {bs : Bs} {f : Rc} (h : fs[i]? = some s) : recF (fs.drop i) bs f = (if (valueF s bs 0).2.2 ≠ 0 then (zeroR, (valueF s bs 0).2.2, (valueF s bs 0).2.1) else if setE s (valueF s bs 0).1 ≠ 0 then (zeroR, setE s (valueF s bs 0).1, (valueF s bs 0).2.1) else recF (fs.drop (i + 1)) (valueF s bs 0).2.1 (updR s (valueF s bs 0).1 f)) := by
 have hi := (List.getElem?_eq_some_iff.1 h).1
 rw [List.drop_eq_getElem_cons hi, show fs[i] = s from (List.getElem?_eq_some_iff.1 h).2]
 rfl
theorem r17Records_no (d : Rd (List Hd)) (hd : RcOk d 1) (b : Bs) (id : Nat) (hn : findG d.c (d.dom, (id : Int)) = none) :
  DCall P 26 [.agg (stO d 0), .sl (bcl b), .int .i64 (id : Int)] [rwO d] (.tup [.agg (stO { d with lost := d.lost + 1 } 1), .int .i64 0]) [.dead, rwO { d with lost := d.lost + 1 }] := by
 obtain ⟨hl, hG, hlo, hid, hou⟩ := hd
 have q1 := r16Find_ok d.c d.dom (id : Int) (by omega)
 rw [hn] at q1
 have q1 : PCall P _ _ (.tup [ztv, .bool false]) := q1
 have wl : IntKind.i64.wrap ((d.lost : Int) + 1) = ((d.lost + 1 : Nat) : Int) := by rw [wrap_i64 (by omega) (by omega)]; omega
 refine DCall.of_awp tok mixed fn26 (Nat.le_of_ble_eq_true rfl) ?_
 (conv => whnf); (repeat' ((first | (with_reducible refine Box.mk ?_) | ((with_reducible show ACall _ _ _ _ _); refine ACall.of_pure (by assumption) (by rfl) ?_) | fail) <;> conv => whnf))
 rw [wl]
 exact weak_ren_to [(0, false), (0, true)] rfl rfl rfl ⟨rfl, trivial⟩
theorem r17Records_idle (d : Rd (List Hd)) (hd : RcOk d 1) (b : Bs) (id : Nat) (h : Hd) (hn : findG d.c (d.dom, (id : Int)) = some h) (hs : 0 < h.t.scope) :
  DCall P 26 [.agg (stO d 0), .sl (bcl b), .int .i64 (id : Int)] [rwO d] (.tup [.agg (stO { d with idle := d.idle + 1 } 1), .int .i64 0]) [.dead, rwO { d with idle := d.idle + 1 }] := by
 obtain ⟨hl, hG, hlo, hid, hou⟩ := hd
 have q1 := r16Find_ok d.c d.dom (id : Int) (by omega)
 rw [hn] at q1
 have q1 : PCall P _ _ (.tup [.agg [.int .i64 h.t.id, .int .i64 h.t.scope, .sl (scl h.t.fields)], .bool true]) := q1
 have wl : IntKind.i64.wrap ((d.idle : Int) + 1) = ((d.idle + 1 : Nat) : Int) := by rw [wrap_i64 (by omega) (by omega)]; omega
 refine DCall.of_sound tok mixed fn26 (Nat.le_of_ble_eq_true rfl) ?_
 refine Sound.seq tok mixed ?_
 (conv => whnf); repeat' ((with_reducible refine Box.mk ?_) <;> conv => whnf)
 refine Sound.seq tok mixed ?_
 (conv => whnf); (repeat' ((first | (with_reducible refine Box.mk ?_) | ((with_reducible show ACall _ _ _ _ _); refine ACall.of_pure (by assumption) (by rfl) ?_) | fail) <;> conv => whnf))
 refine Sound.seq tok mixed ?_
 (conv => whnf); repeat' ((with_reducible refine Box.mk ?_) <;> conv => whnf)
 all_goals try (exfalso; rename_i hx; exact hx rfl)
 refine Sound.seq tok mixed ?_
 (conv => whnf); (repeat' ((with_reducible first | refine Box.mk ?_ | refine And.intro (fun _ => ?_) (fun _ => ?_) | fail) <;> conv => whnf))
 ·rw [wl]
  exact weak_ren_to [(0, false), (0, true)] rfl rfl rfl ⟨rfl, trivial⟩
 ·exfalso; omega
set_option maxHeartbeats 8000000 in
theorem r17Records_yes (d : Rd (List Hd)) (b : Bs) (hb : b.length ≤ 1000000000) (hd : RcOk d b.length) (id : Nat) (h : Hd) (hn : findG d.c (d.dom, (id : Int)) = some h) (hs : ¬ 0 < h.t.scope) (o : List Rc) (er : Int) (hz : recsF b.length h.t.fields b d.out = (o, er)) :
  DCall P 26 [.agg (stO d 0), .sl (bcl b), .int .i64 (id : Int)] [rwO d] (.tup [.agg (stO { d with out := o } 1), .int .i64 er]) [.dead, rwO { d with out := o }] := by
 obtain ⟨hl, hG, hlo, hid, hou⟩ := hd
 have q1 := r16Find_ok d.c d.dom (id : Int) (by omega)
 rw [hn] at q1
 have q1 : PCall P _ _ (.tup [.agg [.int .i64 h.t.id, .int .i64 h.t.scope, .sl (scl h.t.fields)], .bool true]) := q1
 have hmem : h ∈ d.c := List.mem_of_find?_eq_some hn
 obtain ⟨r1, r2, r3⟩ := right_all (hG h hmem)
 have hsz := sizes_nn r3
 generalize h.t = t at *
 clear hn hmem
 have q3 := xfSize_ok t.fields (by omega)
 have hfl := scl_len t.fields
 refine DCall.of_awp tok mixed fn26 (Nat.le_of_ble_eq_true rfl) ?_
 (conv => whnf); (repeat' ((first | (with_reducible first | refine Box.mk ?_ | refine And.intro (fun _ => ?_) (fun _ => ?_) | fail) | ((with_reducible show ACall _ _ _ _ _); refine ACall.of_pure (by assumption) (by rfl) ?_) | fail) <;> conv => whnf))
 ·exfalso; omega
 refine aloop (fun x : List Rc × Bs × Bs × Nat => x.2.1 ++ x.2.2.1 = b ∧ x.2.2.1.length ≤ x.2.2.2 ∧ x.1.length + x.2.2.1.length ≤ 2000000000 ∧ recsF x.2.2.2 t.fields x.2.2.1 x.1 = (o, er))
  (fun x => ⟨envL [(3, .ptr 1 0), (6, .ptr 2 0), (8, .ptr 3 0), (10, .ptr 4 0)], [.dead, .box 35 (stO d 5), .box 35 zst, .box 58 [.int .i64 t.id, .int .i64 t.scope, .sl (scl t.fields)], .box 115 [.sl (bcl (x.2.1 ++ x.2.2.1)), .int .i64 (x.2.1.length : Int), .int .i64 0], .row 55 22 (rcl x.1)]⟩)
  (fun x => x.2.2.1.length) (d.out, [], b, b.length) ⟨rfl, Nat.le_refl _, hou, hz⟩ (weak_ren_to [(0, false), (1, true), (2, true), (3, true), (4, true), (0, true)] rfl rfl rfl ⟨rfl, rfl, rfl, rfl, trivial⟩) ?_
 clear hz
 rintro ⟨l, pre, bs, m⟩ ⟨hpb, hm, hol, hz⟩
 dsimp only at hpb hm hol hz ⊢
 have q5 := xLeft_ok pre bs 0 (by rw [hpb]; exact hb)
 rw [rest_zero] at q5
 have hbl : pre.length + bs.length = b.length := by rw [← hpb, List.length_append]
 have hrl := rcl_len l
 by_cases hlt : sizesF t.fields ≤ (bs.length : Int)
 ·obtain ⟨m, rfl⟩ : ∃ k, m = k + 1 := ⟨m - 1, by omega⟩
  unfold recsF at hz
  rw [if_neg (by omega)] at hz
  have hro := fun (g : Rc) (b1 : Bs) => rec_eat (fs := t.fields) (bs := bs) (f := zeroR) (g := g) (b1 := b1)
  (conv => whnf); (repeat' ((with_reducible first | refine Box.mk ?_ | refine And.intro (fun _ => ?_) (fun _ => ?_) | refine (forceH_eq _ _).mpr ?_ | fail) <;> conv => whnf))
  refine ⟨[], by kernel_rfl, ?_⟩
  (conv => whnf); repeat' ((with_reducible refine Box.mk ?_) <;> conv => whnf)
  refine aDr [4] q5 rfl rfl rfl rfl ?_
  (conv => whnf); (repeat' ((first | (with_reducible first | refine Box.mk ?_ | refine And.intro (fun _ => ?_) (fun _ => ?_) | fail) | ((with_reducible show Exists _); refine ⟨_, ACall.of_pure (by assumption) (by rfl) ⟨rfl, rfl⟩, ?_⟩) | fail) <;> conv => whnf))
  rotate_left
  ·exfalso; rename_i hx; exact hx hlt
  refine aloop (fun x : Nat × Rc × Int × Int × Bs × Bs => x.1 ≤ t.fields.length ∧ x.2.2.2.2.1 ++ x.2.2.2.2.2 = b ∧ inRec t.fields bs x.1 x.2.1 x.2.2.1 x.2.2.2.1 x.2.2.2.2.2)
   (fun x => ⟨envL [(3, .ptr 1 0), (6, .ptr 2 0), (8, .ptr 3 0), (10, .ptr 4 0), (11, .ptr 6 0), (12, .int .i64 x.2.2.1), (13, .int .i64 (x.1 : Int))], [.dead, .box 35 (stO d 5), .box 35 zst, .box 58 [.int .i64 t.id, .int .i64 t.scope, .sl (scl t.fields)], .box 115 [.sl (bcl (x.2.2.2.2.1 ++ x.2.2.2.2.2)), .int .i64 (x.2.2.2.2.1.length : Int), .int .i64 x.2.2.2.1], .row 55 22 (rcl l), .box 55 (rcc x.2.1)]⟩)
   (fun x => t.fields.length - x.1) (0, zeroR, 0, 0, pre, bs) ⟨Nat.zero_le _, hpb, .inl ⟨rfl, rfl, rfl⟩⟩ (weak_ren_to [(0, true), (1, true), (2, true), (3, true), (4, true), (5, true), (6, true)] rfl rfl (by show _ = [_, _, _, _, _, _, Ob.box _ (rcc zeroR)]; rw [rcz]; rfl) ⟨rfl, rfl, rfl, rfl, rfl, rfl, rfl, trivial⟩) ?_
  rintro ⟨i, f, e, re, pre1, b1⟩ ⟨hi, hpb1, hin⟩
  dsimp only at hi hpb1 hin ⊢
  have hE : (e ≠ 0 ∧ (recF t.fields bs zeroR).2.1 = e) → (o, er) = (l, e) := fun hx => by
   obtain ⟨h1, h2⟩ := hx
   generalize recF t.fields bs zeroR = y at hz h2
   obtain ⟨g, e1, b2⟩ := y
   have h2 : e1 = e := h2
   subst h2
   dsimp only at hz
   rw [if_pos h1] at hz
   exact hz.symm
  rcases hin with ⟨rfl, rfl, heq⟩ | hbad
  ·by_cases hlt2 : i < t.fields.length
   ·have hx := List.getElem?_eq_getElem hlt2
    rw [recF_at hx] at heq
    generalize t.fields[i] = s at *
    have hg := scl_get hx
    obtain ⟨pre2, hp2, qv⟩ := xfValue_ok s pre1 b1 0 (by rw [hpb1]; exact hb)
    have hvl := value_le s b1 0
    have hb1 : pre1.length + b1.length = b.length := by rw [← hpb1, List.length_append]
    generalize valueF s b1 0 = r at *
    obtain ⟨v, b2, e1⟩ := r
    dsimp only at hp2 qv hvl heq
    have qs := xSet_ok s v f (by omega)
    (conv => whnf); (repeat' ((first | (with_reducible first | refine Box.mk ?_ | refine And.intro (fun _ => ?_) (fun _ => ?_) | fail) | ((with_reducible show _ ∧ _ ∧ _); refine ⟨by omega, by omega, ?_⟩) | fail) <;> conv => whnf))
    all_goals try (exfalso; omega)
    refine ⟨by omega, scc s, hg, rfl, ?_⟩
    (conv => whnf); repeat' ((with_reducible refine Box.mk ?_) <;> conv => whnf)
    refine aW [4] qv rfl rfl rfl ?_
    (conv => whnf); (repeat' ((with_reducible first | refine Box.mk ?_ | refine And.intro (fun _ => ?_) (fun _ => ?_) | fail) <;> conv => whnf))
    ·rename_i h1
     have h1 : e1 = 0 := h1
     subst h1
     rw [if_neg (fun hx3 => hx3 rfl)] at heq
     refine ⟨[], by kernel_rfl, ?_⟩
     (conv => whnf); repeat' ((with_reducible refine Box.mk ?_) <;> conv => whnf)
     refine ⟨by omega, scc s, hg, rfl, ?_⟩
     (conv => whnf); (repeat' ((first | (with_reducible refine Box.mk ?_) | ((with_reducible show Exists _); refine ⟨_, ACall.of_pure (by assumption) (by rfl) ⟨rfl, rfl⟩, ?_⟩) | fail) <;> conv => whnf))
     refine ⟨(i + 1, setR s v f, setE s v, 0, pre2, b2), ⟨hlt2, hp2.trans hpb1, ?_⟩, by show t.fields.length - (i + 1) < t.fields.length - i; omega, weak_ren_to [(0, true), (1, true), (2, true), (3, true), (4, true), (5, true), (6, true)] rfl rfl rfl ⟨rfl, rfl, rfl, rfl, rfl, rfl, wrap_nat (m := 1) (by omega), trivial⟩⟩
     by_cases h2 : setE s v = 0
     ·rw [if_neg (fun hx3 => hx3 h2)] at heq
      exact .inl ⟨h2, rfl, by rw [heq]; unfold setR; rw [if_pos h2]⟩
     ·rw [if_pos h2] at heq
      exact .inr ⟨h2, by rw [heq]⟩
    ·rename_i h1
     have h1 : e1 ≠ 0 := h1
     rw [if_pos h1] at heq
     exact ⟨(i + 1, f, e1, e1, pre2, b2), ⟨hlt2, hp2.trans hpb1, .inr ⟨h1, by rw [heq]⟩⟩, by show t.fields.length - (i + 1) < t.fields.length - i; omega, weak_ren_to [(0, true), (1, true), (2, true), (3, true), (4, true), (5, true), (6, true)] rfl rfl rfl ⟨rfl, rfl, rfl, rfl, rfl, rfl, wrap_nat (m := 1) (by omega), trivial⟩⟩
   ·have hil : i = t.fields.length := by omega
    subst hil
    rw [List.drop_length] at heq
    have heq : recF t.fields bs zeroR = (f, 0, b1) := heq
    have hro := hro f b1 heq
    rw [heq] at hz
    dsimp only at hz
    rw [if_neg (fun hx3 => hx3 rfl)] at hz
    (conv => whnf); (repeat' ((first | (with_reducible first | refine Box.mk ?_ | refine And.intro (fun _ => ?_) (fun _ => ?_) | fail) | ((with_reducible show _ ∧ _ ∧ _); refine ⟨by omega, by omega, ?_⟩) | fail) <;> conv => whnf))
    all_goals try (exfalso; omega)
    refine ⟨fun c hc => by rw [List.mem_singleton.1 hc]; exact ⟨rfl, rfl⟩, by rw [hrl]; show (_ + 1) * 208 ≤ _; omega, by rw [hrl]; show _ + 1 ≤ _; omega, ?_⟩
    (conv => whnf); repeat' ((with_reducible refine Box.mk ?_) <;> conv => whnf)
    refine ⟨(l ++ [f], pre1, b1, m), ⟨hpb1, by show b1.length ≤ m; omega, by show (l ++ [f]).length + b1.length ≤ _; rw [List.length_append]; show l.length + 1 + _ ≤ _; omega, hz⟩, by show b1.length < bs.length; omega, weak_ren_to [(0, true), (1, true), (2, true), (3, true), (4, true), (8, true)] rfl rfl ?_ ⟨rfl, rfl, rfl, rfl, trivial⟩⟩
    rw [show rcl (l ++ [f]) = rcl l ++ [rcc f] from List.map_append ..]
    rfl
  ·have hoe := hE hbad
   simp only [Prod.mk.injEq] at hoe
   obtain ⟨rfl, rfl⟩ := hoe
   have he := hbad.1
   (conv => whnf); (repeat' ((first | (with_reducible first | refine Box.mk ?_ | refine And.intro (fun _ => ?_) (fun _ => ?_) | fail) | ((with_reducible show _ ∧ _ ∧ _); refine ⟨by omega, by omega, ?_⟩) | fail) <;> conv => whnf))
   all_goals try exact absurd (by assumption) he
   all_goals exact weak_ren_to [(0, true), (5, true)] rfl rfl rfl ⟨rfl, trivial⟩
 ·have hzz : recsF m t.fields bs l = (l, 0) := by
   cases m with
   | zero => rfl
   | succ m => unfold recsF; rw [if_pos (by omega)]
  rw [hzz] at hz
  simp only [Prod.mk.injEq] at hz
  obtain ⟨rfl, rfl⟩ := hz
  (conv => whnf); (repeat' ((with_reducible first | refine Box.mk ?_ | refine And.intro (fun _ => ?_) (fun _ => ?_) | refine (forceH_eq _ _).mpr ?_ | fail) <;> conv => whnf))
  refine ⟨[], by kernel_rfl, ?_⟩
  (conv => whnf); repeat' ((with_reducible refine Box.mk ?_) <;> conv => whnf)
  refine aDr [4] q5 rfl rfl rfl rfl ?_
  (conv => whnf); (repeat' ((first | (with_reducible first | refine Box.mk ?_ | refine And.intro (fun _ => ?_) (fun _ => ?_) | fail) | ((with_reducible show Exists _); refine ⟨_, ACall.of_pure (by assumption) (by rfl) ⟨rfl, rfl⟩, ?_⟩) | fail) <;> conv => whnf))
  ·exfalso; rename_i hx; exact hlt hx
  exact weak_ren_to [(0, true), (5, true)] rfl rfl rfl ⟨rfl, trivial⟩
end Go.Proofs.YtnajpmepcffnaaaGreatDoor
end

section
/- The document's messages: a message, read. -/
namespace Go.Proofs.YtnajpmepcffnaaaGreatDoor
open Go.Ve
attribute [local irreducible] Sound

theorem r17Records_ok (d : Rd (List Hd)) (b : Bs) (hb : b.length ≤ 1000000000) (hd : RcOk d (b.length + 1)) (id : Nat) :
  DCall P 26 [.agg (stO d 0), .sl (bcl b), .int .i64 (id : Int)] [rwO d] (.tup [.agg (stO (recordsF opG d id b).1 1), .int .i64 (recordsF opG d id b).2]) [.dead, rwO (recordsF opG d id b).1] := by
 have h1 : RcOk d 1 := ⟨hd.len, hd.right, by have := hd.lost; omega, by have := hd.idle; omega, by have := hd.out; omega⟩
 have h2 : RcOk d b.length := ⟨hd.len, hd.right, by have := hd.lost; omega, by have := hd.idle; omega, by have := hd.out; omega⟩
 unfold recordsF
 rw [show opG.find d.c (d.dom, (id : Int)) = findG d.c (d.dom, (id : Int)) from rfl]
 cases hf : findG d.c (d.dom, (id : Int)) with
 | none => exact r17Records_no d h1 b id hf
 | some h =>
  dsimp only
  by_cases hs : 0 < h.t.scope
  ·rw [if_pos hs]
   exact r17Records_idle d h1 b id h hf hs
  ·rw [if_neg hs]
   rcases hz : recsF b.length h.t.fields b d.out with ⟨o, er⟩
   exact r17Records_yes d b hb h2 id h hf hs o er hz

theorem setG_right {G : List Hd} (hG : ∀ h ∈ G, rightT h.t = true) (x : Hd) : ∀ h ∈ setG G x, rightT h.t = true := by
 intro h hh
 unfold setG at hh
 split at hh
 ·rename_i h0
  rcases insG_mem.1 hh with rfl | hh
  ·unfold setGErr at h0
   split at h0
   ·cases h0
   ·rename_i h1
    cases hr : rightT h.t
    ·exact absurd hr h1
    ·rfl
  ·exact hG h (List.mem_filter.1 hh).1
 ·exact hG h hh
structure GOk (G : List Hd) : Prop where
 len : G.length ≤ 64
 right : ∀ h ∈ G, rightT h.t = true
theorem GOk.withdraw {G : List Hd} (h : GOk G) (d : Nat) (opt : Bool) (id : Nat) : GOk (withdrawF opG G d opt id).1 := by
 refine ⟨withdrawG_len h.len d opt id, fun x hx => ?_⟩
 unfold withdrawF at hx
 split at hx
 ·exact h.right x (List.mem_filter.1 hx).1
 ·split at hx
  ·exact h.right x hx
  ·exact h.right x (List.mem_filter.1 hx).1
theorem GOk.tmpl {G : List Hd} (h : GOk G) (d : Nat) (opt : Bool) (bs : Bs) : GOk (tmplF opG G d opt bs).1 := by
 unfold tmplF
 split
 ·exact h.withdraw _ _ _
 ·rcases scopeF opt (cntB bs) (bs.drop 4) with ⟨sc, b4, e4⟩
  dsimp only
  rcases specsF (cntB bs) b4 e4 with ⟨fs, b5, e5⟩
  dsimp only
  split
  ·exact h
  ·exact ⟨setG_len h.len _, setG_right h.right _⟩
theorem GOk.tmpls : ∀ (n : Nat) {G : List Hd}, GOk G → ∀ (d : Nat) (opt : Bool) (bs : Bs), GOk (tmplsF opG n G d opt bs).1
 | 0, G, h, d, opt, bs => h
 | n + 1, G, h, d, opt, bs => by
  unfold tmplsF
  split
  ·exact h
  ·have h1 := h.tmpl d opt bs
   generalize tmplF opG G d opt bs = q0 at *
   obtain ⟨c1, er, b1⟩ := q0
   dsimp only at h1 ⊢
   split
   ·exact h1
   ·exact GOk.tmpls n h1 d opt b1
theorem RcOk.set {d : Rd (List Hd)} {k : Nat} (h : RcOk d k) {j : Nat} (id : Nat) (b : Bs) (hk : b.length + 1 + j ≤ k) : RcOk (setF opG d id b).1 j := by
 obtain ⟨h1, h2, h3, h4, h5⟩ := h
 have hg : GOk d.c := ⟨h1, h2⟩
 unfold setF
 split
 ·have := hg.tmpls b.length d.dom true b
  exact ⟨this.len, this.right, by show d.lost + _ ≤ _; omega, by show d.idle + _ ≤ _; omega, by show d.out.length + _ ≤ _; omega⟩
 ·split
  ·have := hg.tmpls b.length d.dom false b
   exact ⟨this.len, this.right, by show d.lost + _ ≤ _; omega, by show d.idle + _ ≤ _; omega, by show d.out.length + _ ≤ _; omega⟩
  ·split
   ·exact ⟨h1, h2, by show d.lost + _ ≤ _; omega, by show d.idle + _ ≤ _; omega, by show d.out.length + _ ≤ _; omega⟩
   ·unfold recordsF
    split
    ·exact ⟨h1, h2, by show d.lost + 1 + _ ≤ _; omega, by show d.idle + _ ≤ _; omega, by show d.out.length + _ ≤ _; omega⟩
    ·split
     ·exact ⟨h1, h2, by show d.lost + _ ≤ _; omega, by show d.idle + 1 + _ ≤ _; omega, by show d.out.length + _ ≤ _; omega⟩
     ·rename_i x _ _
      have := recs_more b.length x.t.fields b d.out
      exact ⟨h1, h2, by show d.lost + _ ≤ _; omega, by show d.idle + _ ≤ _; omega, by show (recsF b.length x.t.fields b d.out).1.length + _ ≤ _; omega⟩
def sumS (l : List (Nat × Bs)) : Nat := (l.map fun x => x.2.length + 1).sum
theorem setsL_sum : ∀ (n : Nat) (bs : Bs), sumS (setsL n bs).1 ≤ bs.length ∧ ∀ x ∈ (setsL n bs).1, x.1 < 65536
 | 0, bs => ⟨Nat.zero_le _, fun x hx => by cases hx⟩
 | n + 1, bs => by
  unfold setsL
  split
  ·exact ⟨Nat.zero_le _, fun x hx => by cases hx⟩
  ·split
   ·exact ⟨Nat.zero_le _, fun x hx => by cases hx⟩
   ·split
    ·exact ⟨Nat.zero_le _, fun x hx => by cases hx⟩
    ·split
     ·exact ⟨Nat.zero_le _, fun x hx => by cases hx⟩
     ·have ih := setsL_sum n (bs.drop (cntB bs))
      generalize setsL n (bs.drop (cntB bs)) = q at ih ⊢
      obtain ⟨l, e⟩ := q
      dsimp only at ih ⊢
      refine ⟨?_, fun x hx => ?_⟩
      ·show (((bs.drop 4).take (cntB bs - 4)).length + 1) + sumS l ≤ _
       have h1 := ih.1
       rw [List.length_drop] at h1
       rw [List.length_take, List.length_drop]
       omega
      ·rcases List.mem_cons.1 hx with rfl | hx
       ·exact val2 bs
       ·exact ih.2 x hx
theorem sumS_app (a b : List (Nat × Bs)) : sumS (a ++ b) = sumS a + sumS b := by unfold sumS; rw [List.map_append, List.sum_append]
theorem sumS_drop (L : List (Nat × Bs)) (i : Nat) : sumS (L.drop i) ≤ sumS L := by
 have := congrArg sumS (List.take_append_drop i L)
 rw [sumS_app] at this
 omega
theorem foldR_cons (x : Nat × Bs) (r : List (Nat × Bs)) (d : Rd (List Hd)) : foldR opG (x :: r) d = (if (setF opG d x.1 x.2).2 ≠ 0 then ((setF opG d x.1 x.2).1, (setF opG d x.1 x.2).2) else foldR opG r (setF opG d x.1 x.2).1) := rfl
def stv (d : Rd (List Hd)) : AV := .agg [.sl (hdl d.c), .int .u32 (d.time : Int), .int .u32 (d.seq : Int), .int .u32 (d.dom : Int), .int .i64 (d.lost : Int), .int .i64 (d.idle : Int), .sl (rcl d.out)]
def rdV (r : Rd (List Hd) × Int) : AV := if r.2 ≠ 0 then .tup [.agg zst, .int .i64 r.2] else .tup [stv r.1, .int .i64 0]
noncomputable def rd9C : Code := cdr17 (cdr17 (cdr17 (cdr17 (cdr17 (Tryz.f9.body.getD .skip)))))
theorem rd9_sets (d0 : Rd (List Hd)) (L : List (Nat × Bs)) (hL : sumS L ≤ 65536) (hid : ∀ x ∈ L, x.1 < 65536) (hd0 : RcOk d0 (sumS L)) (last : Int) (r : Rd (List Hd)) (er : Int) (hz : foldR opG L d0 = (r, er)) :
  Sound P Tryz.f9.ntmps none 0 rd9C (FPost ty Tryz.f9.results.toList fun vs H' => Weak 0 ⟨envL [(0, mkRes vs)], H'⟩ ⟨envL [(0, rdV (r, if er ≠ 0 then er else last))], []⟩)
   ⟨envL [(4, .ptr 0 0), (8, .ptr 1 0), (9, .sl (stl L)), (10, .int .i64 last)], [.box 35 zst, .box 35 (stO d0 2), rwO d0]⟩ := by
 have hsl := stl_len L
 have hLl : L.length ≤ sumS L := by
  clear hL hid hd0 hz hsl
  induction L with
  | nil => exact Nat.zero_le _
  | cons x r ih => show r.length + 1 ≤ x.2.length + 1 + sumS r; omega
 refine Sound.seq tok mixed ?_
 (conv => whnf); repeat' ((with_reducible refine Box.mk ?_) <;> conv => whnf)
 refine aloop (fun x : Nat × Rd (List Hd) => x.1 ≤ L.length ∧ RcOk x.2 (sumS (L.drop x.1)) ∧ foldR opG (L.drop x.1) x.2 = (r, er)) (fun x => ⟨envL [(4, .ptr 0 0), (8, .ptr 1 0), (9, .sl (stl L)), (10, .int .i64 last), (11, .int .i64 (x.1 : Int))], [.box 35 zst, .box 35 (stO x.2 2), rwO x.2]⟩) (fun x => L.length - x.1) (0, d0) ⟨Nat.zero_le _, hd0, hz⟩ (weak_ren_to [(0, true), (1, true), (2, true)] rfl rfl rfl ⟨rfl, rfl, rfl, rfl, rfl, trivial⟩) ?_
 clear hd0 hz
 rintro ⟨i, d⟩ ⟨hi, hd, hz⟩
 dsimp only at hi hd hz ⊢
 by_cases hlt : i < L.length
 ·have hx := List.getElem?_eq_getElem hlt
  have hdr : L.drop i = L[i] :: L.drop (i + 1) := List.drop_eq_getElem_cons hlt
  have hidx := hid _ (List.mem_of_getElem? hx)
  rw [hdr] at hd hz
  generalize L[i] = x at *
  obtain ⟨id, bb⟩ := x
  have hg := stl_get hx
  rw [foldR_cons] at hz
  have hsd := sumS_drop L (i + 1)
  have hsd2 := sumS_drop L i
  rw [hdr] at hsd2
  have hs : sumS ((id, bb) :: L.drop (i + 1)) = bb.length + 1 + sumS (L.drop (i + 1)) := rfl
  rw [hs] at hd hsd2
  have hd1 := hd.set id bb (j := sumS (L.drop (i + 1))) (Nat.le_refl _)
  have hidx : id < 65536 := hidx
  have hgb : (stl L)[(i : Int).toNat]? = some [.int .i64 (id : Int), .sl (bcl bb)] := hg
  dsimp only at hz
  obtain ⟨q, hq⟩ : ∃ q, setF opG d id bb = q := ⟨_, rfl⟩
  rw [hq] at hz hd1
  obtain ⟨d1, e1⟩ := q
  dsimp only at hz hd1
  unfold setF at hq
  by_cases h3 : id = 3
  ·rw [if_pos h3] at hq
   have qT := r17Templates_ok d hd.len bb (by omega) true
   rw [tmpls_same] at qT
   rcases ht : tmplsF opG bb.length d.c d.dom true bb with ⟨c1, ec⟩
   rw [ht] at hq qT
   simp only [Prod.mk.injEq] at hq
   obtain ⟨rfl, rfl⟩ := hq
   dsimp only at qT
   clear ht
   (conv => whnf); (repeat' ((with_reducible first | refine Box.mk ?_ | refine And.intro (fun _ => ?_) (fun _ => ?_) | fail) <;> conv => whnf))
   all_goals try (exfalso; omega)
   refine ⟨by omega, _, hgb, rfl, ?_⟩
   (conv => whnf); (repeat' ((with_reducible first | refine Box.mk ?_ | refine And.intro (fun _ => ?_) (fun _ => ?_) | fail) <;> conv => whnf))
   all_goals try (exfalso; omega)
   refine ⟨by omega, _, hgb, rfl, ?_⟩
   (conv => whnf); (repeat' ((with_reducible first | refine Box.mk ?_ | refine And.intro (fun _ => ?_) (fun _ => ?_) | fail) <;> conv => whnf))
   all_goals try (exfalso; omega)
   refine ⟨[], by kernel_rfl, ?_⟩
   (conv => whnf); repeat' ((with_reducible refine Box.mk ?_) <;> conv => whnf)
   refine ⟨by omega, _, hgb, rfl, ?_⟩
   (conv => whnf); repeat' ((with_reducible refine Box.mk ?_) <;> conv => whnf)
   all_goals try (exfalso; omega)
   refine ⟨by omega, _, hgb, rfl, ?_⟩
   (conv => whnf); (repeat' ((with_reducible first | refine Box.mk ?_ | refine And.intro (fun _ => ?_) (fun _ => ?_) | fail) <;> conv => whnf))
   all_goals try (exfalso; omega)
   refine aDr [2] qT rfl rfl rfl rfl ?_
   (conv => whnf); (repeat' ((with_reducible first | refine Box.mk ?_ | refine And.intro (fun _ => ?_) (fun _ => ?_) | fail) <;> conv => whnf))
   ·rename_i h0
    rw [if_neg (fun hx3 => hx3 h0)] at hz
    exact ⟨(i + 1, _), ⟨hlt, hd1, hz⟩, by show L.length - (i + 1) < L.length - i; omega, weak_ren_to [(0, true), (1, true), (2, true)] rfl rfl rfl ⟨rfl, rfl, rfl, rfl, wrap_nat (m := 1) (by omega), trivial⟩⟩
   ·rename_i h0
    rw [if_pos h0] at hz
    simp only [Prod.mk.injEq] at hz
    obtain ⟨rfl, rfl⟩ := hz
    rw [if_pos h0, show rdV (_, _) = _ from if_pos h0]
    exact weak_ren_to [] rfl rfl rfl ⟨rfl, trivial⟩
  rw [if_neg h3] at hq
  by_cases h2 : id = 2
  ·rw [if_pos h2] at hq
   have qT := r17Templates_ok d hd.len bb (by omega) false
   rw [tmpls_same] at qT
   rcases ht : tmplsF opG bb.length d.c d.dom false bb with ⟨c1, ec⟩
   rw [ht] at hq qT
   simp only [Prod.mk.injEq] at hq
   obtain ⟨rfl, rfl⟩ := hq
   dsimp only at qT
   clear ht
   (conv => whnf); (repeat' ((with_reducible first | refine Box.mk ?_ | refine And.intro (fun _ => ?_) (fun _ => ?_) | fail) <;> conv => whnf))
   all_goals try (exfalso; omega)
   refine ⟨by omega, _, hgb, rfl, ?_⟩
   (conv => whnf); (repeat' ((with_reducible first | refine Box.mk ?_ | refine And.intro (fun _ => ?_) (fun _ => ?_) | fail) <;> conv => whnf))
   all_goals try (exfalso; omega)
   refine ⟨[], by kernel_rfl, ?_⟩
   (conv => whnf); repeat' ((with_reducible refine Box.mk ?_) <;> conv => whnf)
   refine ⟨by omega, _, hgb, rfl, ?_⟩
   (conv => whnf); repeat' ((with_reducible refine Box.mk ?_) <;> conv => whnf)
   all_goals try (exfalso; omega)
   refine ⟨by omega, _, hgb, rfl, ?_⟩
   (conv => whnf); (repeat' ((with_reducible first | refine Box.mk ?_ | refine And.intro (fun _ => ?_) (fun _ => ?_) | fail) <;> conv => whnf))
   all_goals try (exfalso; omega)
   refine aDr [2] qT rfl rfl rfl rfl ?_
   (conv => whnf); (repeat' ((with_reducible first | refine Box.mk ?_ | refine And.intro (fun _ => ?_) (fun _ => ?_) | fail) <;> conv => whnf))
   ·rename_i h0
    rw [if_neg (fun hx3 => hx3 h0)] at hz
    exact ⟨(i + 1, _), ⟨hlt, hd1, hz⟩, by show L.length - (i + 1) < L.length - i; omega, weak_ren_to [(0, true), (1, true), (2, true)] rfl rfl rfl ⟨rfl, rfl, rfl, rfl, wrap_nat (m := 1) (by omega), trivial⟩⟩
   ·rename_i h0
    rw [if_pos h0] at hz
    simp only [Prod.mk.injEq] at hz
    obtain ⟨rfl, rfl⟩ := hz
    rw [if_pos h0, show rdV (_, _) = _ from if_pos h0]
    exact weak_ren_to [] rfl rfl rfl ⟨rfl, trivial⟩
  rw [if_neg h2] at hq
  by_cases h256 : id < 256
  ·rw [if_pos h256] at hq
   simp only [Prod.mk.injEq] at hq
   obtain ⟨rfl, rfl⟩ := hq
   (conv => whnf); (repeat' ((with_reducible first | refine Box.mk ?_ | refine And.intro (fun _ => ?_) (fun _ => ?_) | fail) <;> conv => whnf))
   all_goals try (exfalso; omega)
   refine ⟨by omega, _, hgb, rfl, ?_⟩
   (conv => whnf); (repeat' ((with_reducible first | refine Box.mk ?_ | refine And.intro (fun _ => ?_) (fun _ => ?_) | fail) <;> conv => whnf))
   all_goals try (exfalso; omega)
   refine ⟨by omega, _, hgb, rfl, ?_⟩
   (conv => whnf); (repeat' ((with_reducible first | refine Box.mk ?_ | refine And.intro (fun _ => ?_) (fun _ => ?_) | fail) <;> conv => whnf))
   all_goals try (exfalso; omega)
   refine ⟨by omega, _, hgb, rfl, ?_⟩
   (conv => whnf); (repeat' ((with_reducible first | refine Box.mk ?_ | refine And.intro (fun _ => ?_) (fun _ => ?_) | fail) <;> conv => whnf))
   all_goals try (exfalso; omega)
   have h0 : (12 : Int) ≠ 0 := by decide
   rw [if_pos h0] at hz
   simp only [Prod.mk.injEq] at hz
   obtain ⟨rfl, rfl⟩ := hz
   rw [if_pos h0, show rdV (_, _) = _ from if_pos h0]
   exact weak_ren_to [] rfl rfl rfl ⟨rfl, trivial⟩
  rw [if_neg h256] at hq
  have qR := r17Records_ok d bb (by omega) ⟨hd.len, hd.right, by have := hd.lost; omega, by have := hd.idle; omega, by have := hd.out; omega⟩ id
  rw [hq] at qR
  dsimp only at qR
  (conv => whnf); (repeat' ((with_reducible first | refine Box.mk ?_ | refine And.intro (fun _ => ?_) (fun _ => ?_) | fail) <;> conv => whnf))
  all_goals try (exfalso; omega)
  refine ⟨by omega, _, hgb, rfl, ?_⟩
  (conv => whnf); (repeat' ((with_reducible first | refine Box.mk ?_ | refine And.intro (fun _ => ?_) (fun _ => ?_) | fail) <;> conv => whnf))
  all_goals try (exfalso; omega)
  refine ⟨by omega, _, hgb, rfl, ?_⟩
  (conv => whnf); (repeat' ((with_reducible first | refine Box.mk ?_ | refine And.intro (fun _ => ?_) (fun _ => ?_) | fail) <;> conv => whnf))
  all_goals try (exfalso; omega)
  refine ⟨by omega, _, hgb, rfl, ?_⟩
  (conv => whnf); (repeat' ((with_reducible first | refine Box.mk ?_ | refine And.intro (fun _ => ?_) (fun _ => ?_) | fail) <;> conv => whnf))
  all_goals try (exfalso; omega)
  refine ⟨[(2011, [])], by kernel_rfl, ?_⟩
  (conv => whnf); repeat' ((with_reducible refine Box.mk ?_) <;> conv => whnf)
  refine ⟨by omega, _, hgb, rfl, ?_⟩
  (conv => whnf); repeat' ((with_reducible refine Box.mk ?_) <;> conv => whnf)
  all_goals try (exfalso; omega)
  refine ⟨by omega, _, hgb, rfl, ?_⟩
  (conv => whnf); repeat' ((with_reducible refine Box.mk ?_) <;> conv => whnf)
  all_goals try (exfalso; omega)
  refine aDw [2] qR rfl rfl rfl ?_
  (conv => whnf); (repeat' ((with_reducible first | refine Box.mk ?_ | refine And.intro (fun _ => ?_) (fun _ => ?_) | fail) <;> conv => whnf))
  ·rename_i h0
   rw [if_neg (fun hx3 => hx3 h0)] at hz
   exact ⟨(i + 1, _), ⟨hlt, hd1, hz⟩, by show L.length - (i + 1) < L.length - i; omega, weak_ren_to [(0, true), (1, true), (3, true)] rfl rfl rfl ⟨rfl, rfl, rfl, rfl, wrap_nat (m := 1) (by omega), trivial⟩⟩
  ·rename_i h0
   rw [if_pos h0] at hz
   simp only [Prod.mk.injEq] at hz
   obtain ⟨rfl, rfl⟩ := hz
   rw [if_pos h0, show rdV (_, _) = _ from if_pos h0]
   exact weak_ren_to [] rfl rfl rfl ⟨rfl, trivial⟩
 ·have hil : i = L.length := by omega
  subst hil
  rw [List.drop_length] at hz
  have hz : (d, 0) = (r, er) := hz
  simp only [Prod.mk.injEq] at hz
  obtain ⟨rfl, rfl⟩ := hz
  rw [if_neg (fun h => h rfl)]
  (conv => whnf); (repeat' ((with_reducible first | refine Box.mk ?_ | refine And.intro (fun _ => ?_) (fun _ => ?_) | fail) <;> conv => whnf))
  all_goals try (exfalso; omega)
  refine Sound.awp tok mixed ?_
  (conv => whnf); (repeat' ((with_reducible first | refine Box.mk ?_ | refine And.intro (fun _ => ?_) (fun _ => ?_) | fail) <;> conv => whnf))
  ·rename_i h0
   rw [show rdV (d, last) = _ from if_neg (fun hx => hx h0)]
   exact weak_cr 2 [] rfl rfl rfl rfl rfl
  ·rename_i h0
   rw [show rdV (d, last) = _ from if_pos h0]
   exact weak_ren_to [] rfl rfl rfl ⟨rfl, trivial⟩
theorem r17Read_ok (G : List Hd) (hG : GOk G) (b : Bs) (hb : b.length ≤ 1000000000) :
  DCall P 9 [.sl (hdl G), .sl (bcl b)] [] (rdV (readM opG G b)) [] := by
 have q1 := r17Head_ok b hb
 by_cases hh : headE b ≠ 0
 ·have e : readM opG G b = (⟨G, 0, 0, 0, 0, 0, []⟩, headE b) := by unfold readM; rw [if_pos hh]
  rw [e, show rdV (_, headE b) = _ from if_pos hh]
  rw [if_pos hh] at q1
  unfold hv0 at q1
  refine DCall.of_sound tok mixed fn9 (Nat.le_of_ble_eq_true rfl) ?_
  refine Sound.seq tok mixed ?_
  (conv => whnf); repeat' ((with_reducible refine Box.mk ?_) <;> conv => whnf)
  refine Sound.seq tok mixed ?_
  (conv => whnf); (repeat' ((first | (with_reducible refine Box.mk ?_) | ((with_reducible show ACall _ _ _ _ _); refine ACall.of_pure (by assumption) (by rfl) ?_) | fail) <;> conv => whnf))
  refine Sound.seq tok mixed ?_
  (conv => whnf); (repeat' ((with_reducible first | refine Box.mk ?_ | refine And.intro (fun _ => ?_) (fun _ => ?_) | fail) <;> conv => whnf))
  ·rename_i h0
   exact absurd h0 hh
  ·exact weak_ren_to [] rfl rfl rfl ⟨rfl, trivial⟩
 ·have h0 := Decidable.not_not.1 hh
  have hlen : 16 ≤ b.length ∧ b.length ≤ 65535 := by
   unfold headE at h0
   split at h0
   ·cases h0
   ·split at h0
    ·cases h0
    ·split at h0
     ·cases h0
     ·split at h0
      ·cases h0
      ·split at h0
       ·cases h0
       ·have := val2 (b.drop 2)
        unfold cntB at *
        omega
  have hs := setsL_sum (b.drop 16).length (b.drop 16)
  have hd16 : (b.drop 16).length = b.length - 16 := List.length_drop
  obtain ⟨k1, k2⟩ := fold_sets opG (b.drop 16).length ⟨G, hTime b, hSeq b, hDom b, 0, 0, []⟩ (b.drop 16)
  have q2 := r17Sets_ok b hlen.1 hb
  have e : readM opG G b = setsF opG (b.drop 16).length ⟨G, hTime b, hSeq b, hDom b, 0, 0, []⟩ (b.drop 16) := by unfold readM; rw [if_neg hh]
  have hd0 : RcOk (⟨G, hTime b, hSeq b, hDom b, 0, 0, []⟩ : Rd (List Hd)) (sumS (setsL (b.drop 16).length (b.drop 16)).1) := ⟨hG.len, hG.right, by show 0 + _ ≤ _; omega, by show 0 + _ ≤ _; omega, by show 0 + _ ≤ _; omega⟩
  rcases hz : foldR opG (setsL (b.drop 16).length (b.drop 16)).1 ⟨G, hTime b, hSeq b, hDom b, 0, 0, []⟩ with ⟨r, er⟩
  have h9 := rd9_sets _ _ (by omega) hs.2 hd0 (setsL (b.drop 16).length (b.drop 16)).2 r er hz
  rw [hz] at k1 k2
  dsimp only at k1 k2
  have er9 : rdV (readM opG G b) = rdV (r, if er ≠ 0 then er else (setsL (b.drop 16).length (b.drop 16)).2) := by
   rw [e]
   by_cases hc : (setsF opG (b.drop 16).length ⟨G, hTime b, hSeq b, hDom b, 0, 0, []⟩ (b.drop 16)).2 = 0
   ·rw [← k1]
    unfold rdV
    rw [if_neg (fun hx => hx hc), if_neg (fun hx => hx hc), k2 hc]
   ·rw [← k1]
    unfold rdV
    rw [if_pos hc, if_pos hc]
  rw [er9]
  rw [if_neg hh] at q1
  unfold hvB at q1
  rw [h0] at q1
  clear er9 e k1 k2 hz hd0 hs
  generalize (setsL (b.drop 16).length (b.drop 16)).1 = L at *
  generalize (setsL (b.drop 16).length (b.drop 16)).2 = last at *
  refine DCall.of_sound tok mixed fn9 (Nat.le_of_ble_eq_true rfl) ?_
  refine Sound.seq tok mixed ?_
  (conv => whnf); repeat' ((with_reducible refine Box.mk ?_) <;> conv => whnf)
  refine Sound.seq tok mixed ?_
  (conv => whnf); (repeat' ((first | (with_reducible refine Box.mk ?_) | ((with_reducible show ACall _ _ _ _ _); refine ACall.of_pure (by assumption) (by rfl) ?_) | fail) <;> conv => whnf))
  refine Sound.seq tok mixed ?_
  (conv => whnf); (repeat' ((with_reducible first | refine Box.mk ?_ | refine And.intro (fun _ => ?_) (fun _ => ?_) | fail) <;> conv => whnf))
  all_goals try (exfalso; rename_i hx; exact hx rfl)
  refine Sound.seq tok mixed ?_
  (conv => whnf); repeat' ((with_reducible refine Box.mk ?_) <;> conv => whnf)
  refine Sound.seq tok mixed ?_
  (conv => whnf); (repeat' ((first | (with_reducible refine Box.mk ?_) | ((with_reducible show ACall _ _ _ _ _); refine ACall.of_pure (by assumption) (by rfl) ?_) | fail) <;> conv => whnf))
  refine Sound.weak ?_ h9
  refine (weak_ren_to (l := [(4, .ptr 0 0), (8, .ptr 1 0), (9, .sl (stl L)), (10, .int .i64 last)]) (H' := [.box 35 zst, .box 35 [.sl (hdl G), .int .u32 (hTime b : Int), .int .u32 (hSeq b : Int), .int .u32 (hDom b : Int), .int .i64 0, .int .i64 0, .nils]]) [(0, true), (2, true)] rfl rfl rfl ⟨rfl, rfl, rfl, rfl, trivial⟩).trans ?_
  exact weak_nilrow (H' := [.box 35 zst, .box 35 (stO ⟨G, hTime b, hSeq b, hDom b, 0, 0, []⟩ 2)]) 55 22 (by decide) ⟨.inl rfl, .inl rfl, .inl rfl, .inl rfl, trivial⟩ ⟨.inl rfl, .inr ⟨rfl, .inl rfl, .inl rfl, .inl rfl, .inl rfl, .inl rfl, .inl rfl, .inr ⟨rfl, rfl⟩, trivial⟩, trivial⟩
end Go.Proofs.YtnajpmepcffnaaaGreatDoor
end

section
/- alive17. -/
namespace Go.Proofs.YtnajpmepcffnaaaGreatDoor
open Go.Ve

def fs0 : List Sc := [⟨8, 0, 4⟩, ⟨1, 0, 2⟩]
def t0 : Tm := ⟨256, 0, fs0⟩
def f0 : Rc := ⟨⟨1, 32, 167772161 * 2 ^ 96, []⟩, zeroK, zeroK, zeroK, 0, 500⟩
def h0 : Hh := ⟨1, 0, 7, 0, 0⟩
def a0B : Bs := frameB 2 (tmplB 256 fs0)
def d0B : Bs := frameB 256 (putsB fs0 f0)
def b0B : Bs := msgB h0 [a0B, d0B].flatten
def w0B : Bs := frameB 2 (numB 2 2 ++ numB 0 2)
def m0B : Bs := msgB h0 [w0B, d0B].flatten
def c1S : Cs := ⟨false, [(⟨7, t0⟩, 0)], 1⟩
theorem t0_right : rightT t0 = true := by decide
theorem b0_val : b0B = [0, 10, 0, 42, 0, 0, 0, 1, 0, 0, 0, 0, 0, 0, 0, 7, 0, 2, 0, 16, 1, 0, 0, 2, 0, 8, 0, 4, 0, 1, 0, 2, 1, 0, 0, 10, 10, 0, 0, 1, 1, 244] := by kernel_rfl
theorem read_b0 : readM opC newS [0, 10, 0, 42, 0, 0, 0, 1, 0, 0, 0, 0, 0, 0, 0, 7, 0, 2, 0, 16, 1, 0, 0, 2, 0, 8, 0, 4, 0, 1, 0, 2, 1, 0, 0, 10, 10, 0, 0, 1, 1, 244] = (⟨c1S, 1, 0, 7, 0, 0, [f0]⟩, 0) := by kernel_rfl
theorem m0_val : m0B = [0, 10, 0, 34, 0, 0, 0, 1, 0, 0, 0, 0, 0, 0, 0, 7, 0, 2, 0, 8, 0, 2, 0, 0, 1, 0, 0, 10, 10, 0, 0, 1, 1, 244] := by kernel_rfl
theorem read_m0 : readM opC c1S [0, 10, 0, 34, 0, 0, 0, 1, 0, 0, 0, 0, 0, 0, 0, 7, 0, 2, 0, 8, 0, 2, 0, 0, 1, 0, 0, 10, 10, 0, 0, 1, 1, 244] = (⟨⟨false, [], 1⟩, 1, 0, 7, 1, 0, []⟩, 0) := by kernel_rfl
theorem list_nil : listE [] = [] := List.length_eq_zero_iff.1 (by rw [listE_len]; rfl)
theorem clone_new : cloneS newS = newS := by
 unfold cloneS newS
 rw [list_nil]; rfl
theorem list_c1 : listE c1S.es = [⟨7, t0⟩] := by
 refine Rel.list (by decide) ⟨?_, fun h => ?_⟩
 ·unfold OrdC; exact List.pairwise_singleton _ _
 ·constructor
  ·intro hh; exact ⟨_, List.mem_singleton.2 rfl, (List.mem_singleton.1 hh).symm⟩
  ·rintro ⟨e, he, rfl⟩; rw [List.mem_singleton.1 he]; exact List.mem_singleton.2 rfl
theorem clone_c1 : cloneS c1S = c1S := by
 unfold cloneS
 rw [list_c1]; rfl
end Go.Proofs.YtnajpmepcffnaaaGreatDoor
end

section
/- alive17. -/
namespace Go.Proofs.YtnajpmepcffnaaaGreatDoor
open Go.Ve
attribute [local irreducible] Sound
def F0 : List AV := [.int .i64 1, .int .i64 32, .int .u64 720575944674246656, .int .u64 0, .str [], .int .i64 0, .int .i64 0, .int .u64 0, .int .u64 0, .str [], .int .i64 0, .int .i64 0, .int .u64 0, .int .u64 0, .str [], .int .i64 0, .int .i64 0, .int .u64 0, .int .u64 0, .str [], .int .u64 0, .int .u64 500]
theorem f0_cells : rcc f0 = F0 := by kernel_rfl
theorem fs0_all {p : Sc → Prop} (h1 : p ⟨8, 0, 4⟩) (h2 : p ⟨1, 0, 2⟩) : ∀ s ∈ fs0, p s := fun s hs => by
 rcases List.mem_cons.1 hs with rfl | hs
 ·exact h1
 ·rw [List.mem_singleton.1 hs]; exact h2
def T0 : List AV := [.int .i64 256, .int .i64 0, .sl (scl fs0)]
theorem tellA : DCall P 27 [.sl [T0]] [] (.tup [.sl (bcl a0B), .int .i64 0]) [] :=
 templates_one 256 fs0 t0_right (by decide) (fs0_all ⟨by decide, by decide⟩ ⟨by decide, by decide⟩)
theorem tellD : DCall P 28 [.agg T0, .sl [F0]] [] (.tup [.sl (bcl d0B), .int .i64 0]) [] := by
 have := data_one 256 fs0 f0 t0_right (by decide) (by decide) (by decide)
  (fs0_all (by rw [show (ofR f0 ⟨8, 0, 4⟩).length = 4 from by kernel_rfl]; decide) (by rw [show (ofR f0 ⟨1, 0, 2⟩).length = 2 from by kernel_rfl]; decide))
  (by rw [show (putsB fs0 f0).length = 6 from by kernel_rfl]; decide)
 rwa [f0_cells] at this
def Hv0 : AV := .agg [.int .u32 1, .int .u32 0, .int .u32 7, .int .i64 0, .int .i64 0]
theorem h0_ok : HhOk h0 := ⟨by decide, by decide, by decide⟩
theorem tellB : DCall P 13 [Hv0, .sl [[.sl (bcl a0B)], [.sl (bcl d0B)]]] [] (.tup [.sl (bcl b0B), .int .i64 0]) [] :=
 message_ok h0 h0_ok [a0B, d0B] (by show 2 ≤ _; omega) (by rw [show [a0B, d0B].flatten.length = 26 from by kernel_rfl]; omega)
theorem tellM : DCall P 13 [Hv0, .sl [[.sl (bcl w0B)], [.sl (bcl d0B)]]] [] (.tup [.sl (bcl m0B), .int .i64 0]) [] :=
 message_ok h0 h0_ok [w0B, d0B] (by show 2 ≤ _; omega) (by rw [show [w0B, d0B].flatten.length = 18 from by kernel_rfl]; omega)
theorem b0_len : b0B.length = 42 := by rw [b0_val]; rfl
theorem m0_len : m0B.length = 34 := by rw [m0_val]; rfl
theorem tel17R : DCall P 8 [.ptr 0 0, .sl (bcl b0B)] [.box 67 [.nilm]] (.tup [.ptr 1 0, .sl [F0], Hv0, .int .i64 0]) [.box 67 [.nilm], .box 67 [.own 2], .map pk2 (ces c1S.es) 1] := by
 have h := (ipRead_ok newS CI.new b0B (by rw [b0_len]; omega)).2
 rw [clone_new, b0_val, read_b0] at h
 have h := h rfl
 rw [b0_val]
 have e : goodV (cH newS).length (⟨c1S, 1, 0, 7, 0, 0, [f0]⟩ : Rd Cs) = .tup [.ptr 1 0, .sl [F0], Hv0, .int .i64 0] := by
  unfold goodV
  rw [show rcl (⟨c1S, 1, 0, 7, 0, 0, [f0]⟩ : Rd Cs).out = [rcc f0] from rfl, f0_cells]; rfl
 dsimp only at h
 rw [e] at h
 exact h
theorem c1_ci : CI c1S := by
 have h := ci_read (c := newS) CI.new (b := b0B) (by rw [b0_len]; omega)
 rwa [b0_val, read_b0] at h
theorem c2_ci : CI ⟨false, [], 1⟩ := by
 have h := ci_read (c := c1S) c1_ci (b := m0B) (by rw [m0_len]; omega)
 rwa [m0_val, read_m0] at h
theorem tel17X : DCall P 8 [.ptr 0 0, .sl (bcl m0B)] [.box 67 [.own 1], .map pk2 (ces c1S.es) 1] (.tup [.ptr 2 0, .sl [], .agg [.int .u32 1, .int .u32 0, .int .u32 7, .int .i64 1, .int .i64 0], .int .i64 0]) [.box 67 [.own 1], .map pk2 (ces c1S.es) 1, .box 67 [.own 3], .map pk2 [] 1] := by
 have h := (ipRead_ok c1S c1_ci m0B (by rw [m0_len]; omega)).2
 rw [clone_c1, m0_val, read_m0] at h
 rw [m0_val]
 exact h rfl
theorem tellF : DCall P 18 [.ptr 0 0, .int .u32 7, .int .i64 256] [.box 67 [.own 1], .map pk2 (ces c1S.es) 1] (.tup [.agg T0, .bool true]) [.box 67 [.own 1], .map pk2 (ces c1S.es) 1] := find_ok c1S c1_ci 7 256
theorem tellS : PCall P 19 [.agg T0, .agg T0] (.bool true) := same_refl t0 (by decide)
theorem tellL : DCall P 15 [.ptr 0 0] [.box 67 [.own 1], .map pk2 [] 1] (.sl []) [.box 67 [.own 1], .map pk2 [] 1] := by
 have h := list_ok ⟨false, [], 1⟩ c2_ci
 rw [show listE (⟨false, [], 1⟩ : Cs).es = [] from list_nil] at h
 exact h
theorem tellW : DCall P 29 [.bool false, .sl [[.int .i64 2]]] [] (.tup [.sl (bcl w0B), .int .i64 0]) [] := withdraw_one
set_option maxHeartbeats 4000000 in
theorem alive_17 : PCall P 12 [] (.bool true) := by
 have qA := tellA
 have qD := tellD
 have qB := tellB
 have qM := tellM
 have qR := tel17R
 have qX := tel17X
 have qF := tellF
 have qS := tellS
 have qL := tellL
 have qW := tellW
 have qN := read_nilp b0B
 have qT := templates_nil
 have qC := cnew_ok
 have hbl : (bcl b0B).length = 42 := by rw [bcl_len, b0_len]
 have hbl2 : ((bcl b0B).length : Int) = 42 := by rw [hbl]; rfl
 generalize a0B = a at *
 generalize d0B = dd at *
 generalize b0B = b at *
 generalize w0B = w at *
 generalize m0B = m at *
 generalize ces c1S.es = es at *
 unfold T0 Hv0 F0 badV hv0 at *
 refine PCall.of_sound tok mixed fn12 (Nat.le_of_ble_eq_true rfl) ?_
 refine Sound.seq tok mixed ?_
 (conv => whnf); repeat' ((with_reducible refine Box.mk ?_) <;> conv => whnf)
 refine Sound.seq tok mixed ?_
 (conv => whnf); repeat' ((with_reducible refine Box.mk ?_) <;> conv => whnf)
 refine Sound.weak ((weak_const 0 rfl (l := [(1, .ptr 1 0)]) rfl ⟨rfl, trivial⟩).trans (weak_ren_to (l := [(1, .ptr 0 0)]) (H' := [.box 58 [.int .i64 256, .int .i64 0, .sl (scl fs0)]]) [(1, true)] rfl rfl rfl ⟨rfl, trivial⟩)) ?_
 refine Sound.awp tok mixed ?_
 (conv => whnf); repeat' ((with_reducible refine Box.mk ?_) <;> conv => whnf)
 refine ACall.freeze 2 rfl rfl ?_
 refine aW [] qA rfl rfl rfl ?_
 (conv => whnf); repeat' ((with_reducible refine Box.mk ?_) <;> conv => whnf)
 refine ACall.freeze 3 rfl rfl ?_
 refine aW [] qD rfl rfl rfl ?_
 (conv => whnf); repeat' ((with_reducible refine Box.mk ?_) <;> conv => whnf)
 refine ACall.freeze 4 rfl rfl ?_
 refine aW [] qB rfl rfl rfl ?_
 (conv => whnf); repeat' ((with_reducible refine Box.mk ?_) <;> conv => whnf)
 refine aW [] qC rfl rfl rfl ?_
 (conv => whnf); repeat' ((with_reducible refine Box.mk ?_) <;> conv => whnf)
 refine aW [5] qR rfl rfl rfl ?_
 (conv => whnf); (repeat' ((with_reducible first | refine Box.mk ?_ | refine And.intro (fun _ => ?_) (fun _ => ?_) | fail) <;> conv => whnf))
 all_goals try contradiction
 all_goals try exact absurd hbl2 (by assumption)
 all_goals try exact absurd rfl (by assumption)
 refine aW [6, 7] qF rfl rfl rfl ?_
 (conv => whnf); repeat' ((with_reducible refine Box.mk ?_) <;> conv => whnf)
 refine ACall.freeze 10 rfl rfl ?_
 refine aW [] qW rfl rfl rfl ?_
 (conv => whnf); repeat' ((with_reducible refine Box.mk ?_) <;> conv => whnf)
 refine ACall.freeze 11 rfl rfl ?_
 refine aW [] qM rfl rfl rfl ?_
 (conv => whnf); repeat' ((with_reducible refine Box.mk ?_) <;> conv => whnf)
 refine aW [6, 7] qX rfl rfl rfl ?_
 (conv => whnf); repeat' ((with_reducible refine Box.mk ?_) <;> conv => whnf)
 refine aW [] qN rfl rfl rfl ?_
 (conv => whnf); repeat' ((with_reducible refine Box.mk ?_) <;> conv => whnf)
 refine aW [] qT rfl rfl rfl ?_
 (conv => whnf); repeat' ((with_reducible refine Box.mk ?_) <;> conv => whnf)
 refine ⟨[], by kernel_rfl, ?_⟩
 (conv => whnf); repeat' ((with_reducible refine Box.mk ?_) <;> conv => whnf)
 refine ⟨Int.le_refl _, _, rfl, rfl, ?_⟩
 (conv => whnf); (repeat' ((first | (with_reducible first | refine Box.mk ?_ | refine And.intro (fun _ => ?_) (fun _ => ?_) | fail) | ((with_reducible show Exists _); refine ⟨_, ACall.of_pure (by assumption) (by rfl) ⟨rfl, rfl⟩, ?_⟩) | fail) <;> conv => whnf))
 all_goals try (rename_i h; first | exact h.elim | exact absurd rfl h | exact absurd (by simp) h)
 refine aDr [12, 13] qL rfl rfl rfl rfl ?_
 (conv => whnf); (repeat' ((with_reducible first | refine Box.mk ?_ | refine And.intro (fun _ => ?_) (fun _ => ?_) | fail) <;> conv => whnf))
 all_goals try (rename_i h; first | exact h.elim | exact absurd rfl h | exact absurd (by simp) h)
 all_goals try rfl
end Go.Proofs.YtnajpmepcffnaaaGreatDoor
end

section
/- law17: IpfixApart, what is said. -/
namespace Go.Proofs.YtnajpmepcffnaaaGreatDoor
open Go.Ve

theorem Keeps.symm {d : Nat} {c c' : Cs} (h : Keeps d c c') : Keeps d c' c := fun g hg => (h g hg).symm
end Go.Proofs.YtnajpmepcffnaaaGreatDoor
end

section
/- law17: IpfixSplits, what is said: two messages' sets, read one behind the other and as one message. -/
namespace Go.Proofs.YtnajpmepcffnaaaGreatDoor
open Go.Ve

end Go.Proofs.YtnajpmepcffnaaaGreatDoor
end

section
/- law17: IpfixSplits, from the back. -/
namespace Go.Proofs.YtnajpmepcffnaaaGreatDoor
open Go.Ve
attribute [local irreducible] Sound
end Go.Proofs.YtnajpmepcffnaaaGreatDoor
end

section
/- law17: IpfixSplits, put together. -/
namespace Go.Proofs.YtnajpmepcffnaaaGreatDoor
open Go.Ve
attribute [local irreducible] Sound
theorem RI.less {d : Rd Cs} {k j : Nat} (h : RI d k) (hk : j ≤ k) : RI d j := ⟨h.ci, h.dom, by have := h.lost; omega, by have := h.idle; omega, by have := h.out; omega⟩
theorem ri_sets0 : ∀ (n : Nat) {d : Rd Cs} {bs : Bs}, RI d bs.length → RI (setsF opC n d bs).1 0
 | 0, d, bs, h => h.less (Nat.zero_le _)
 | n + 1, d, bs, h => by
  unfold setsF
  split
  ·exact h.less (Nat.zero_le _)
  ·split
   ·exact h.less (Nat.zero_le _)
   ·split
    ·exact h.less (Nat.zero_le _)
    ·split
     ·exact h.less (Nat.zero_le _)
     ·have h1 := h.set (j := (bs.drop (cntB bs)).length) (idB bs) ((bs.drop 4).take (cntB bs - 4)) (by simp only [List.length_take, List.length_drop]; omega)
      generalize setF opC d (idB bs) ((bs.drop 4).take (cntB bs - 4)) = q0 at *
      obtain ⟨d1, er⟩ := q0
      dsimp only at h1 ⊢
      split
      ·exact h1.less (Nat.zero_le _)
      ·exact ri_sets0 n h1
theorem ri_read {c : Cs} (hc : CI c) {b : Bs} (hb : b.length ≤ 1000000000) : RI (readM opC c b).1 0 := by
 unfold readM
 split
 ·exact ⟨hc, by show (0 : Nat) < _; omega, by show (0 : Nat) + 0 ≤ _; omega, by show (0 : Nat) + 0 ≤ _; omega, by show (0 : Nat) + 0 ≤ _; omega⟩
 ·exact ri_sets0 _ (ri_zero hc hb)

end Go.Proofs.YtnajpmepcffnaaaGreatDoor
end

section
/- law17: IpfixReads. -/
namespace Go.Proofs.YtnajpmepcffnaaaGreatDoor
open Go.Ve
attribute [local irreducible] Sound

theorem sameRecs_nil : PCall P 10 [.nils, .nils] (.bool true) := PCall.nils (sameRecs_refl [] (Nat.zero_le _))
theorem gok_list {c : Cs} (hc : CI c) : GOk (listE c.es) := ⟨hc.list.2.2.2, hc.list.2.1⟩
theorem rd_same {c : Cs} (hc : CI c) (b : Bs) {d : Rd Cs} {e : Int} (hd : readM opC (cloneS c) b = (d, e)) :
  ∃ g : Rd (List Hd), readM opG (listE c.es) b = (g, e) ∧ CI d.c ∧ g = ⟨listE d.c.es, d.time, d.seq, d.dom, d.lost, d.idle, d.out⟩ := by
 have r2 : RC (cloneS c) (listE c.es) := ⟨hc.clone, clone_rel hc⟩
 obtain ⟨⟨⟨c2, x2⟩, y1, y2, y3, y4, y5, y6⟩, e2⟩ := sim_read simC r2 b
 rw [hd] at c2 x2 y1 y2 y3 y4 y5 y6 e2
 refine ⟨(readM opG (listE c.es) b).1, Prod.ext rfl e2.symm, c2, ?_⟩
 generalize readM opG (listE c.es) b = q at *
 obtain ⟨⟨gc, g1, g2, g3, g4, g5, g6⟩, ge⟩ := q
 dsimp only at *
 subst y1 y2 y3 y4 y5 y6
 rw [x2.list c2.nodup]
set_option maxHeartbeats 8000000 in
theorem IpfixReads_run (l : List Bs) (hs : ∀ x ∈ l, x.length ≤ 1048576) : PCall P 3 [.sl (bll l)] (.bool true) := by
 have qC := cnew_ok
 have qa := alive_17
 have hbl := bll_len l
 refine PCall.of_awp tok mixed fn3 (Nat.le_of_ble_eq_true rfl) ?_
 (conv => whnf); repeat' ((with_reducible refine Box.mk ?_) <;> conv => whnf)
 refine aW [] qC rfl rfl rfl ?_
 (conv => whnf); repeat' ((with_reducible refine Box.mk ?_) <;> conv => whnf)
 refine aloop (fun x : Nat × Cs => x.1 ≤ l.length ∧ x.1 ≤ 20 ∧ CI x.2) (fun x => ⟨envL [(0, .sl (bll l)), (3, .ptr 0 0), (4, .sl (hdl (listE x.2.es))), (5, .int .i64 (x.1 : Int))], cHat 0 x.2⟩) (fun x => l.length - x.1) (0, newS) ⟨Nat.zero_le _, Nat.zero_le _, CI.new⟩ ?_ ?_
 ·refine (weak_ren_to (l := [(0, .sl (bll l)), (3, .ptr 0 0), (4, .nils), (5, .int .i64 0)]) (H' := [.box 67 [.nilm]]) [(0, true)] rfl rfl rfl ⟨rfl, rfl, rfl, rfl, trivial⟩).trans (weak_le ⟨.inl rfl, .inl rfl, .inr ⟨rfl, ?_⟩, .inl rfl, trivial⟩ rfl)
  have hl0 : listE newS.es = [] := List.length_eq_zero_iff.1 (by rw [listE_len]; rfl)
  rw [hl0]; rfl
 rintro ⟨i, c⟩ ⟨hi, h20, hc⟩
 dsimp only at hi h20 hc ⊢
 by_cases hlt : i < l.length ∧ i < 20
 ·have hx := List.getElem?_eq_getElem hlt.1
  have hxl := hs _ (List.mem_of_getElem? hx)
  generalize l[i] = m at *
  have hg := bll_get hx
  obtain ⟨q1, q2⟩ := ipRead_ok c hc m (by omega)
  have q3 := r17Read_ok (listE c.es) (gok_list hc) m (by omega)
  have q4 := tmplsSame_ok c hc
  rcases hz : readM opC (cloneS c) m with ⟨d, er⟩
  have hz0 := hz
  obtain ⟨g, hgz, hcd, hge⟩ := rd_same hc m hz
  rw [hz] at q1 q2
  rw [hgz] at q3
  dsimp only at q1 q2
  subst hge
  clear hz hgz
  have q5 := tmplsSame_ok d.c hcd
  have hcl : (listE c.es).length ≤ 64 := hc.list.2.2.2
  obtain ⟨⟨nl2, es2, clk2⟩, ti, sq, dm, lo, il, ou⟩ := d
  obtain ⟨nl, es, clk⟩ := c
  dsimp only at q3 q5 hcd ⊢
  by_cases h0 : er = 0
  ·subst h0
   have q2 := q2 rfl
   unfold goodV hvR at q2
   dsimp only at q2
   have q3 : DCall P _ _ _ (.tup [.agg [.sl (hdl (listE es2)), .int .u32 (ti : Int), .int .u32 (sq : Int), .int .u32 (dm : Int), .int .i64 (lo : Int), .int .i64 (il : Int), .sl (rcl ou)], .int .i64 0]) _ := q3
   have q6 := sameRecs_refl ou (by have := (ri_read hc.clone (b := m) (by omega)).out; rw [hz0] at this; exact this)
   cases nl <;> cases nl2
   ·have q2 : DCall P _ _ (CHp es clk) _ [.box 67 [.own 1], .map pk2 (ces es) clk, .box 67 [.own 3], .map pk2 (ces es2) clk2] := q2
    have q4 : DCall P _ _ (CHp es clk) _ (CHp es clk) := q4
    have q5 : DCall P _ _ (CHp es2 clk2) _ (CHp es2 clk2) := q5
    (conv => whnf); (repeat' ((first | (with_reducible first | refine Box.mk ?_ | refine And.intro (fun _ => ?_) (fun _ => ?_) | fail) | ((with_reducible show ACall _ _ _ _ _); refine ACall.of_pure (by assumption) (by rfl) ?_) | fail) <;> conv => whnf))
    all_goals try (exfalso; omega)
    refine ⟨by omega, _, hg, rfl, ?_⟩
    (conv => whnf); repeat' ((with_reducible refine Box.mk ?_) <;> conv => whnf)
    refine aW [0, 1] q2 rfl rfl rfl ?_
    (conv => whnf); repeat' ((with_reducible refine Box.mk ?_) <;> conv => whnf)
    refine ⟨by omega, _, hg, rfl, ?_⟩
    (conv => whnf); repeat' ((with_reducible refine Box.mk ?_) <;> conv => whnf)
    refine aW [] q3 rfl rfl rfl ?_
    (conv => whnf); (repeat' ((first | (with_reducible first | refine Box.mk ?_ | refine And.intro (fun _ => ?_) (fun _ => ?_) | fail) | ((with_reducible show ACall _ _ _ _ _); refine ACall.of_pure (by assumption) (by rfl) ?_) | fail) <;> conv => whnf))
    all_goals try (exfalso; omega)
    all_goals try (rename_i hx2; exact absurd (by simp) hx2)
    refine aW [0, 1] q4 rfl rfl rfl ?_
    (conv => whnf); (repeat' ((with_reducible first | refine Box.mk ?_ | refine And.intro (fun _ => ?_) (fun _ => ?_) | fail) <;> conv => whnf))
    all_goals try (exfalso; omega)
    all_goals try contradiction
    refine aW [2, 3] q5 rfl rfl rfl ?_
    (conv => whnf); repeat' ((with_reducible refine Box.mk ?_) <;> conv => whnf)
    all_goals try contradiction
    refine ⟨[], by kernel_rfl, ?_⟩
    (conv => whnf); repeat' ((with_reducible refine Box.mk ?_) <;> conv => whnf)
    exact ⟨(i + 1, ⟨false, es2, clk2⟩), ⟨hlt.1, hlt.2, hcd⟩, by show l.length - (i + 1) < l.length - i; omega, weak_ren_to [(2, true), (3, true)] rfl rfl rfl ⟨rfl, rfl, rfl, wrap_nat (m := 1) (by omega), trivial⟩⟩
   ·have q2 : DCall P _ _ (CHp es clk) _ [.box 67 [.own 1], .map pk2 (ces es) clk, .box 67 [.nilm]] := q2
    have q4 : DCall P _ _ (CHp es clk) _ (CHp es clk) := q4
    have q5 : DCall P _ _ [.box 67 [.nilm]] _ [.box 67 [.nilm]] := q5
    (conv => whnf); (repeat' ((first | (with_reducible first | refine Box.mk ?_ | refine And.intro (fun _ => ?_) (fun _ => ?_) | fail) | ((with_reducible show ACall _ _ _ _ _); refine ACall.of_pure (by assumption) (by rfl) ?_) | fail) <;> conv => whnf))
    all_goals try (exfalso; omega)
    refine ⟨by omega, _, hg, rfl, ?_⟩
    (conv => whnf); repeat' ((with_reducible refine Box.mk ?_) <;> conv => whnf)
    refine aW [0, 1] q2 rfl rfl rfl ?_
    (conv => whnf); repeat' ((with_reducible refine Box.mk ?_) <;> conv => whnf)
    refine ⟨by omega, _, hg, rfl, ?_⟩
    (conv => whnf); repeat' ((with_reducible refine Box.mk ?_) <;> conv => whnf)
    refine aW [] q3 rfl rfl rfl ?_
    (conv => whnf); (repeat' ((first | (with_reducible first | refine Box.mk ?_ | refine And.intro (fun _ => ?_) (fun _ => ?_) | fail) | ((with_reducible show ACall _ _ _ _ _); refine ACall.of_pure (by assumption) (by rfl) ?_) | fail) <;> conv => whnf))
    all_goals try (exfalso; omega)
    all_goals try (rename_i hx2; exact absurd (by simp) hx2)
    refine aW [0, 1] q4 rfl rfl rfl ?_
    (conv => whnf); (repeat' ((with_reducible first | refine Box.mk ?_ | refine And.intro (fun _ => ?_) (fun _ => ?_) | fail) <;> conv => whnf))
    all_goals try (exfalso; omega)
    all_goals try contradiction
    refine aW [2] q5 rfl rfl rfl ?_
    (conv => whnf); repeat' ((with_reducible refine Box.mk ?_) <;> conv => whnf)
    all_goals try contradiction
    refine ⟨[], by kernel_rfl, ?_⟩
    (conv => whnf); repeat' ((with_reducible refine Box.mk ?_) <;> conv => whnf)
    exact ⟨(i + 1, ⟨true, es2, clk2⟩), ⟨hlt.1, hlt.2, hcd⟩, by show l.length - (i + 1) < l.length - i; omega, weak_ren_to [(2, true)] rfl rfl rfl ⟨rfl, rfl, rfl, wrap_nat (m := 1) (by omega), trivial⟩⟩
   ·have q2 : DCall P _ _ [.box 67 [.nilm]] _ [.box 67 [.nilm], .box 67 [.own 2], .map pk2 (ces es2) clk2] := q2
    have q4 : DCall P _ _ [.box 67 [.nilm]] _ [.box 67 [.nilm]] := q4
    have q5 : DCall P _ _ (CHp es2 clk2) _ (CHp es2 clk2) := q5
    (conv => whnf); (repeat' ((first | (with_reducible first | refine Box.mk ?_ | refine And.intro (fun _ => ?_) (fun _ => ?_) | fail) | ((with_reducible show ACall _ _ _ _ _); refine ACall.of_pure (by assumption) (by rfl) ?_) | fail) <;> conv => whnf))
    all_goals try (exfalso; omega)
    refine ⟨by omega, _, hg, rfl, ?_⟩
    (conv => whnf); repeat' ((with_reducible refine Box.mk ?_) <;> conv => whnf)
    refine aW [0] q2 rfl rfl rfl ?_
    (conv => whnf); repeat' ((with_reducible refine Box.mk ?_) <;> conv => whnf)
    refine ⟨by omega, _, hg, rfl, ?_⟩
    (conv => whnf); repeat' ((with_reducible refine Box.mk ?_) <;> conv => whnf)
    refine aW [] q3 rfl rfl rfl ?_
    (conv => whnf); (repeat' ((first | (with_reducible first | refine Box.mk ?_ | refine And.intro (fun _ => ?_) (fun _ => ?_) | fail) | ((with_reducible show ACall _ _ _ _ _); refine ACall.of_pure (by assumption) (by rfl) ?_) | fail) <;> conv => whnf))
    all_goals try (exfalso; omega)
    all_goals try (rename_i hx2; exact absurd (by simp) hx2)
    refine aW [0] q4 rfl rfl rfl ?_
    (conv => whnf); (repeat' ((with_reducible first | refine Box.mk ?_ | refine And.intro (fun _ => ?_) (fun _ => ?_) | fail) <;> conv => whnf))
    all_goals try (exfalso; omega)
    all_goals try contradiction
    refine aW [1, 2] q5 rfl rfl rfl ?_
    (conv => whnf); repeat' ((with_reducible refine Box.mk ?_) <;> conv => whnf)
    all_goals try contradiction
    refine ⟨[], by kernel_rfl, ?_⟩
    (conv => whnf); repeat' ((with_reducible refine Box.mk ?_) <;> conv => whnf)
    exact ⟨(i + 1, ⟨false, es2, clk2⟩), ⟨hlt.1, hlt.2, hcd⟩, by show l.length - (i + 1) < l.length - i; omega, weak_ren_to [(1, true), (2, true)] rfl rfl rfl ⟨rfl, rfl, rfl, wrap_nat (m := 1) (by omega), trivial⟩⟩
   ·have q2 : DCall P _ _ [.box 67 [.nilm]] _ [.box 67 [.nilm], .box 67 [.nilm]] := q2
    have q4 : DCall P _ _ [.box 67 [.nilm]] _ [.box 67 [.nilm]] := q4
    have q5 : DCall P _ _ [.box 67 [.nilm]] _ [.box 67 [.nilm]] := q5
    (conv => whnf); (repeat' ((first | (with_reducible first | refine Box.mk ?_ | refine And.intro (fun _ => ?_) (fun _ => ?_) | fail) | ((with_reducible show ACall _ _ _ _ _); refine ACall.of_pure (by assumption) (by rfl) ?_) | fail) <;> conv => whnf))
    all_goals try (exfalso; omega)
    refine ⟨by omega, _, hg, rfl, ?_⟩
    (conv => whnf); repeat' ((with_reducible refine Box.mk ?_) <;> conv => whnf)
    refine aW [0] q2 rfl rfl rfl ?_
    (conv => whnf); repeat' ((with_reducible refine Box.mk ?_) <;> conv => whnf)
    refine ⟨by omega, _, hg, rfl, ?_⟩
    (conv => whnf); repeat' ((with_reducible refine Box.mk ?_) <;> conv => whnf)
    refine aW [] q3 rfl rfl rfl ?_
    (conv => whnf); (repeat' ((first | (with_reducible first | refine Box.mk ?_ | refine And.intro (fun _ => ?_) (fun _ => ?_) | fail) | ((with_reducible show ACall _ _ _ _ _); refine ACall.of_pure (by assumption) (by rfl) ?_) | fail) <;> conv => whnf))
    all_goals try (exfalso; omega)
    all_goals try (rename_i hx2; exact absurd (by simp) hx2)
    refine aW [0] q4 rfl rfl rfl ?_
    (conv => whnf); (repeat' ((with_reducible first | refine Box.mk ?_ | refine And.intro (fun _ => ?_) (fun _ => ?_) | fail) <;> conv => whnf))
    all_goals try (exfalso; omega)
    all_goals try contradiction
    refine aW [1] q5 rfl rfl rfl ?_
    (conv => whnf); repeat' ((with_reducible refine Box.mk ?_) <;> conv => whnf)
    all_goals try contradiction
    refine ⟨[], by kernel_rfl, ?_⟩
    (conv => whnf); repeat' ((with_reducible refine Box.mk ?_) <;> conv => whnf)
    exact ⟨(i + 1, ⟨true, es2, clk2⟩), ⟨hlt.1, hlt.2, hcd⟩, by show l.length - (i + 1) < l.length - i; omega, weak_ren_to [(1, true)] rfl rfl rfl ⟨rfl, rfl, rfl, wrap_nat (m := 1) (by omega), trivial⟩⟩
  ·have q1 := q1 h0
   unfold badV hv0 at q1
   rw [show rdV (_, er) = _ from if_pos h0] at q3
   have q6 := sameRecs_nil
   cases nl
   ·have q1 : DCall P _ _ (CHp es clk) _ (CHp es clk) := q1
    have q4 : DCall P _ _ (CHp es clk) _ (CHp es clk) := q4
    (conv => whnf); (repeat' ((first | (with_reducible first | refine Box.mk ?_ | refine And.intro (fun _ => ?_) (fun _ => ?_) | fail) | ((with_reducible show ACall _ _ _ _ _); refine ACall.of_pure (by assumption) (by rfl) ?_) | fail) <;> conv => whnf))
    all_goals try (exfalso; omega)
    refine ⟨by omega, _, hg, rfl, ?_⟩
    (conv => whnf); repeat' ((with_reducible refine Box.mk ?_) <;> conv => whnf)
    refine aW [0, 1] q1 rfl rfl rfl ?_
    (conv => whnf); repeat' ((with_reducible refine Box.mk ?_) <;> conv => whnf)
    refine ⟨by omega, _, hg, rfl, ?_⟩
    (conv => whnf); repeat' ((with_reducible refine Box.mk ?_) <;> conv => whnf)
    refine aW [] q3 rfl rfl rfl ?_
    (conv => whnf); (repeat' ((first | (with_reducible first | refine Box.mk ?_ | refine And.intro (fun _ => ?_) (fun _ => ?_) | fail) | ((with_reducible show ACall _ _ _ _ _); refine ACall.of_pure (by assumption) (by rfl) ?_) | fail) <;> conv => whnf))
    all_goals try (exfalso; omega)
    all_goals try (rename_i hx2; exact absurd (by simp) hx2)
    refine aW [0, 1] q4 rfl rfl rfl ?_
    (conv => whnf); (repeat' ((with_reducible first | refine Box.mk ?_ | refine And.intro (fun _ => ?_) (fun _ => ?_) | fail) <;> conv => whnf))
    all_goals try (exfalso; omega)
    all_goals try contradiction
    exact ⟨(i + 1, ⟨false, es, clk⟩), ⟨hlt.1, hlt.2, hc⟩, by show l.length - (i + 1) < l.length - i; omega, weak_ren_to [(0, true), (1, true)] rfl rfl rfl ⟨rfl, rfl, rfl, wrap_nat (m := 1) (by omega), trivial⟩⟩
   ·have q1 : DCall P _ _ [.box 67 [.nilm]] _ [.box 67 [.nilm]] := q1
    have q4 : DCall P _ _ [.box 67 [.nilm]] _ [.box 67 [.nilm]] := q4
    (conv => whnf); (repeat' ((first | (with_reducible first | refine Box.mk ?_ | refine And.intro (fun _ => ?_) (fun _ => ?_) | fail) | ((with_reducible show ACall _ _ _ _ _); refine ACall.of_pure (by assumption) (by rfl) ?_) | fail) <;> conv => whnf))
    all_goals try (exfalso; omega)
    refine ⟨by omega, _, hg, rfl, ?_⟩
    (conv => whnf); repeat' ((with_reducible refine Box.mk ?_) <;> conv => whnf)
    refine aW [0] q1 rfl rfl rfl ?_
    (conv => whnf); repeat' ((with_reducible refine Box.mk ?_) <;> conv => whnf)
    refine ⟨by omega, _, hg, rfl, ?_⟩
    (conv => whnf); repeat' ((with_reducible refine Box.mk ?_) <;> conv => whnf)
    refine aW [] q3 rfl rfl rfl ?_
    (conv => whnf); (repeat' ((first | (with_reducible first | refine Box.mk ?_ | refine And.intro (fun _ => ?_) (fun _ => ?_) | fail) | ((with_reducible show ACall _ _ _ _ _); refine ACall.of_pure (by assumption) (by rfl) ?_) | fail) <;> conv => whnf))
    all_goals try (exfalso; omega)
    all_goals try (rename_i hx2; exact absurd (by simp) hx2)
    refine aW [0] q4 rfl rfl rfl ?_
    (conv => whnf); (repeat' ((with_reducible first | refine Box.mk ?_ | refine And.intro (fun _ => ?_) (fun _ => ?_) | fail) <;> conv => whnf))
    all_goals try (exfalso; omega)
    all_goals try contradiction
    exact ⟨(i + 1, ⟨true, es, clk⟩), ⟨hlt.1, hlt.2, hc⟩, by show l.length - (i + 1) < l.length - i; omega, weak_ren_to [(0, true)] rfl rfl rfl ⟨rfl, rfl, rfl, wrap_nat (m := 1) (by omega), trivial⟩⟩
 ·obtain ⟨nl, es, clk⟩ := c
  cases nl
  ·(conv => whnf); (repeat' ((first | (with_reducible first | refine Box.mk ?_ | refine And.intro (fun _ => ?_) (fun _ => ?_) | fail) | ((with_reducible show ACall _ _ _ _ _); refine ACall.of_pure (by assumption) (by rfl) ?_) | fail) <;> conv => whnf))
   all_goals try (exfalso; omega)
   all_goals rfl
  ·(conv => whnf); (repeat' ((first | (with_reducible first | refine Box.mk ?_ | refine And.intro (fun _ => ?_) (fun _ => ?_) | fail) | ((with_reducible show ACall _ _ _ _ _); refine ACall.of_pure (by assumption) (by rfl) ?_) | fail) <;> conv => whnf))
   all_goals try (exfalso; omega)
   all_goals rfl
end Go.Proofs.YtnajpmepcffnaaaGreatDoor
end

section
/- Arguments: nil lists, and nil lists within lists, as empty ones. -/
namespace Go.Ve

theorem nlN_cell {x : AV} (h : isCell x = true) : isCell (nlN x) = true := by
 cases x <;> first | exact h | rfl
def nl2 : AV → AV
 | .nils => .sl []
 | .sl es => .sl (es.map (List.map nlN))
 | x => x
theorem nl2_rv [Dr] {K : Addr → Value → Prop} {σ : List Value} {x : AV} {v : Value} (h : Rv K σ x v) : Rv K σ (nl2 x) v := by
 cases h with
 | nils => exact .sl0 _
 | sl0 => exact .sl0 _
 | sl _ es a cap sz val hcap hlen hsz hv hK =>
  have hl : (es.map (List.map nlN)).length = es.length := List.length_map _
  have := Rv.sl (K := K) σ (es.map (List.map nlN)) a cap sz val (by rw [hl]; exact hcap) (by rw [hl]; exact hlen) (fun c hc => by
   obtain ⟨d, hd, rfl⟩ := List.mem_map.1 hc
   obtain ⟨h1, h2⟩ := hsz d hd
   refine ⟨by rw [List.length_map]; exact h1, List.all_eq_true.2 fun y hy => ?_⟩
   obtain ⟨z, hz, rfl⟩ := List.mem_map.1 hy
   exact nlN_cell (List.all_eq_true.1 h2 z hz)) (fun i j c x hc hx => by
   rw [List.getElem?_map, Option.map_eq_some_iff] at hc
   obtain ⟨d, hd, rfl⟩ := hc
   rw [List.getElem?_map, Option.map_eq_some_iff] at hx
   obtain ⟨z, hz, rfl⟩ := hx
   exact nlN_rv (fun _ _ h => h) (hv i j d z hd hz)) (fun i j hi hj => hK i j (by rw [hl] at hi; exact hi) hj)
  rw [hl] at this
  exact this
 | int _ k n => exact .int _ _ _
 | bool _ b => exact .bool _ _
 | str _ s => exact .str _ _
 | undef _ v => exact .undef _ _
 | und => exact .und _
 | own _ id v h1 h2 => exact .own _ _ _ h1 h2
 | cptr _ cs a val h1 h2 h3 => exact .cptr _ _ _ _ h1 h2 h3
 | ptr _ id off b h => exact .ptr _ _ _ _ h
 | eptr _ id i sz off g n cap h => exact .eptr _ _ _ _ _ _ _ _ h
 | asl _ id off n b cap hc h => exact .asl _ _ _ _ _ _ hc h
 | vw _ id n cap a h => exact .vw _ _ _ _ _ h
 | nilp => exact .nilp _
 | agg _ cs vs h1 h2 h3 => exact .agg _ _ _ h1 h2 h3
 | tup _ cs vs h1 h2 => exact .tup _ _ _ h1 h2
 | fn _ f cs vs h1 h2 => exact .fn _ _ _ _ h1 h2
 | bfn _ f cs vs h1 h2 h3 => exact .bfn _ _ _ _ h1 h2 h3
 | nilf => exact .nilf _
 | nili => exact .nili _
 | nilm => exact .nilm _
 | ifc _ t x v h => exact .ifc _ _ _ _ h
def nl2L : List AV → List AV
 | [] => []
 | x :: xs => nl2 x :: nl2L xs
theorem nl2L_len : ∀ (l : List AV), (nl2L l).length = l.length
 | [] => rfl
 | x :: xs => by simp [nl2L, nl2L_len xs]
theorem nl2L_get : ∀ {l : List AV} {j : Nat} {y : AV}, (nl2L l)[j]? = some y → ∃ x, l[j]? = some x ∧ y = nl2 x
 | [], j, y, h => by simp [nl2L] at h
 | x :: xs, 0, y, h => by simp [nl2L] at h; exact ⟨x, rfl, h.symm⟩
 | x :: xs, j + 1, y, h => by simp [nl2L] at h; simpa using nl2L_get h
theorem PCall.nils2 [Dr] {P : Program} {f : FuncId} {args : List AV} {r : AV} (h : PCall P f (nl2L args) r) : PCall P f args r := by
 unfold PCall at *
 refine ⟨h.1, fun M0 w vs h1 h2 hv => h.2 M0 w vs h1 h2 ⟨by rw [nl2L_len]; exact hv.1, fun i y hy => ?_⟩⟩
 obtain ⟨x, hx, rfl⟩ := nl2L_get hy
 exact nl2_rv (hv.2 i x hx)
end Go.Ve
end

section
/- law17: arguments read as data: bytes, lists of bytes, a head. -/
namespace Go.Proofs.YtnajpmepcffnaaaGreatDoor
open Go.Ve

theorem bytes_inv18 {B : Nat} : ∀ (es : List (List AV)), (∀ c ∈ es, Wf ty B 5 c) → ∃ l : Bs, es = bcl l
 | [], _ => ⟨[], rfl⟩
 | c :: r, h => by
  obtain ⟨l, hl⟩ := bytes_inv18 r fun c hc => h c (List.mem_cons_of_mem _ hc)
  obtain ⟨n, rfl, hw⟩ := (h c List.mem_cons_self).int_inv (k := .u8) rfl
  have h2 : (0 : Int) ≤ n ∧ n ≤ 255 := by
   have := hw
   simp [Lit.wf] at this
   rw [show IntKind.u8.min = 0 from rfl, show IntKind.u8.max = 255 from rfl] at this
   exact this
  refine ⟨UInt8.ofNat n.toNat :: l, ?_⟩
  have e : ((UInt8.ofNat n.toNat).toNat : Int) = n := by
   show (((n.toNat % 256 : Nat)) : Int) = n
   omega
  rw [hl]
  show _ = [AV.int .u8 ((UInt8.ofNat n.toNat).toNat : Int)] :: bcl l
  rw [e]
theorem bsc_inv18 {B : Nat} : ∀ (es : List (List AV)), (∀ c ∈ es, Wf ty B 33 c) → ∃ l : List Bs, es.map (List.map nlN) = bll l ∧ l.length = es.length ∧ ∀ x ∈ l, x.length ≤ B
 | [], _ => ⟨[], rfl, rfl, fun x hx => by cases hx⟩
 | c :: r, h => by
  obtain ⟨l, h1, h2, h3⟩ := bsc_inv18 r fun c hc => h c (List.mem_cons_of_mem _ hc)
  rcases (h c List.mem_cons_self).slice_inv rfl with rfl | ⟨es, rfl, hl, he⟩
  ·refine ⟨[] :: l, ?_, by rw [List.length_cons, List.length_cons, h2], fun x hx => ?_⟩
   ·rw [List.map_cons, h1]; rfl
   ·rcases List.mem_cons.1 hx with rfl | hx
    ·exact Nat.zero_le _
    ·exact h3 x hx
  ·obtain ⟨b, rfl⟩ := bytes_inv18 es he
   refine ⟨b :: l, ?_, by rw [List.length_cons, List.length_cons, h2], fun x hx => ?_⟩
   ·rw [List.map_cons, h1]; rfl
   ·rcases List.mem_cons.1 hx with rfl | hx
    ·rw [bcl_len] at hl; exact hl
    ·exact h3 x hx
theorem bsl_inv18 {B : Nat} {x : AV} (h : WfV ty B 22 x) : ∃ l : List Bs, nl2 x = .sl (bll l) ∧ l.length ≤ B ∧ ∀ y ∈ l, y.length ≤ B := by
 rcases h.slice_inv rfl with rfl | ⟨es, rfl, hl, he⟩
 ·exact ⟨[], rfl, Nat.zero_le _, fun y hy => by cases hy⟩
 ·obtain ⟨l, h1, h2, h3⟩ := bsc_inv18 es he
  exact ⟨l, congrArg AV.sl h1, by omega, h3⟩
end Go.Proofs.YtnajpmepcffnaaaGreatDoor
end

section
/- law17: IpfixReads, arguments read as data. -/
namespace Go.Proofs.YtnajpmepcffnaaaGreatDoor
open Go.Ve

theorem IpfixReads_args (xs : List AV) (h : WfA ty 1048576 [22] xs) : PCall P 3 xs (.bool true) := by
 obtain ⟨y1, r1, rfl, g1, h1⟩ := h.cons_inv
 obtain rfl := h1.nil_inv
 obtain ⟨l, el, _, hs⟩ := bsl_inv18 g1
 refine PCall.nils2 ?_
 show PCall P _ [nl2 y1] _
 rw [el]
 exact IpfixReads_run l hs
end Go.Proofs.YtnajpmepcffnaaaGreatDoor
end
