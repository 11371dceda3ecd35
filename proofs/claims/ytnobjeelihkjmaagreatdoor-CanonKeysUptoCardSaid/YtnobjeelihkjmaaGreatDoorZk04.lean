/- Steps (Ws Wd). Conditions: as stated. -/
import Derived.Test.YtnobjeelihkjmaaGreatDoorZk01
set_option maxHeartbeats 1000000
set_option maxRecDepth 20000
namespace Go.Proofs.YtnobjeelihkjmaaGreatDoor
section
def ao0 (t:ByteArray) (l:List ByteArray):Bool:=l.any fun x=>decide (t=x)
def resW:List ByteArray:= [⟨#[98,114,101,97,107]⟩,⟨#[99,97,115,101]⟩,⟨#[99,97,116,99,104]⟩,⟨#[99,108,97,115,115]⟩,⟨#[99,111,110,115,116]⟩,⟨#[99,111,110,116,105,110,117,101]⟩,⟨#[100,101,98,117,103,103,101,114]⟩,⟨#[100,101,102,97,117,108,116]⟩,⟨#[100,101,108,101,116,101]⟩,⟨#[100,111]⟩,⟨#[101,108,115,101]⟩,⟨#[101,110,117,109]⟩,⟨#[101,120,112,111,114,116]⟩,⟨#[101,120,116,101,110,100,115]⟩,⟨#[102,97,108,115,101]⟩,⟨#[102,105,110,97,108,108,121]⟩,⟨#[102,111,114]⟩,⟨#[102,117,110,99,116,105,111,110]⟩,⟨#[105,102]⟩,⟨#[105,109,112,108,101,109,101,110,116,115]⟩,⟨#[105,109,112,111,114,116]⟩,⟨#[105,110]⟩,⟨#[105,110,115,116,97,110,99,101,111,102]⟩,⟨#[105,110,116,101,114,102,97,99,101]⟩,⟨#[108,101,116]⟩,⟨#[110,101,119]⟩,⟨#[110,117,108,108]⟩,⟨#[112,97,99,107,97,103,101]⟩,⟨#[112,114,105,118,97,116,101]⟩,⟨#[112,114,111,116,101,99,116,101,100]⟩,⟨#[112,117,98,108,105,99]⟩,⟨#[114,101,116,117,114,110]⟩,⟨#[115,116,97,116,105,99]⟩,⟨#[115,117,112,101,114]⟩,⟨#[115,119,105,116,99,104]⟩,⟨#[116,104,105,115]⟩,⟨#[116,104,114,111,119]⟩,⟨#[116,114,117,101]⟩,⟨#[116,114,121]⟩,⟨#[116,121,112,101,111,102]⟩,⟨#[118,97,114]⟩,⟨#[118,111,105,100]⟩,⟨#[119,104,105,108,101]⟩,⟨#[119,105,116,104]⟩,⟨#[121,105,101,108,100]⟩]
def aa1 (t:ByteArray) (m:Bool):Bool:=if t=⟨#[97,119,97,105,116]⟩ then m else ao0 t resW
def ad3 (t:ByteArray):Int:=
 if t=⟨#[42,42]⟩ then 12 else if ao0 t [⟨#[42]⟩,⟨#[47]⟩,⟨#[37]⟩] then 11 else if ao0 t [⟨#[43]⟩,⟨#[45]⟩] then 10 else if ao0 t [⟨#[60,60]⟩,⟨#[62,62]⟩,⟨#[62,62,62]⟩] then 9
 else if ao0 t [⟨#[60]⟩,⟨#[62]⟩,⟨#[60,61]⟩,⟨#[62,61]⟩,⟨#[105,110]⟩,⟨#[105,110,115,116,97,110,99,101,111,102]⟩] then 8 else if ao0 t [⟨#[61,61]⟩,⟨#[33,61]⟩,⟨#[61,61,61]⟩,⟨#[33,61,61]⟩] then 7
 else if t=⟨#[38]⟩ then 6 else if t=⟨#[94]⟩ then 5 else if t=⟨#[124]⟩ then 4 else if t=⟨#[38,38]⟩ then 3 else if t=⟨#[124,124]⟩ then 2 else if t=⟨#[63,63]⟩ then 1 else 0
end
section
open Go.RowKit
theorem bt (t:ByteArray) (l:List UInt8):(t.toList==l)=decide (t=⟨l.toArray⟩):=by
 rw [Lib.toList_data,Bool.eq_iff_iff,beq_iff_eq,decide_eq_true_eq]
 constructor
 ·rintro rfl
  cases t
  simp
 ·rintro rfl
  simp
theorem ac1 {t:ByteArray} {l:List UInt8} (h:t≠⟨l.toArray⟩):(t.toList==l)=false:=by rw [bt];exact decide_eq_false h
theorem ar9 (t:ByteArray) (w:World):Calls Tryz.prog 159 #[.string t] w fun e w'=>e= .returned (.bool (decide (t=⟨#[42,42]⟩)))∧w=w':=by
 have hb:=bt t [42,42]
 go_enter Tryz.func159,Tryz.ntmps159
 go_wp2_with fail
 go_ret
 exact⟨rfl,rfl⟩
theorem bD5 (w:World):Calls Tryz.prog 219 #[.string ⟨#[42,42]⟩] w fun e w'=>e= .returned (.int .i64 12)∧w=w':=by
 go_enter Tryz.func219,Tryz.ntmps219
 go_wp2_with fail
 go_ret
 exact⟨rfl,rfl⟩
theorem bD6 (w:World):Calls Tryz.prog 219 #[.string ⟨#[42]⟩] w fun e w'=>e= .returned (.int .i64 11)∧w=w':=by
 go_enter Tryz.func219,Tryz.ntmps219
 go_wp2_with fail
 go_ret
 exact⟨rfl,rfl⟩
theorem bD7 (w:World):Calls Tryz.prog 219 #[.string ⟨#[47]⟩] w fun e w'=>e= .returned (.int .i64 11)∧w=w':=by
 go_enter Tryz.func219,Tryz.ntmps219
 go_wp2_with fail
 go_ret
 exact⟨rfl,rfl⟩
theorem bD8 (w:World):Calls Tryz.prog 219 #[.string ⟨#[37]⟩] w fun e w'=>e= .returned (.int .i64 11)∧w=w':=by
 go_enter Tryz.func219,Tryz.ntmps219
 go_wp2_with fail
 go_ret
 exact⟨rfl,rfl⟩
theorem bD9 (w:World):Calls Tryz.prog 219 #[.string ⟨#[43]⟩] w fun e w'=>e= .returned (.int .i64 10)∧w=w':=by
 go_enter Tryz.func219,Tryz.ntmps219
 go_wp2_with fail
 go_ret
 exact⟨rfl,rfl⟩
theorem bE0 (w:World):Calls Tryz.prog 219 #[.string ⟨#[45]⟩] w fun e w'=>e= .returned (.int .i64 10)∧w=w':=by
 go_enter Tryz.func219,Tryz.ntmps219
 go_wp2_with fail
 go_ret
 exact⟨rfl,rfl⟩
theorem bE1 (w:World):Calls Tryz.prog 219 #[.string ⟨#[60,60]⟩] w fun e w'=>e= .returned (.int .i64 9)∧w=w':=by
 go_enter Tryz.func219,Tryz.ntmps219
 go_wp2_with fail
 go_ret
 exact⟨rfl,rfl⟩
theorem bE2 (w:World):Calls Tryz.prog 219 #[.string ⟨#[62,62]⟩] w fun e w'=>e= .returned (.int .i64 9)∧w=w':=by
 go_enter Tryz.func219,Tryz.ntmps219
 go_wp2_with fail
 go_ret
 exact⟨rfl,rfl⟩
theorem bE3 (w:World):Calls Tryz.prog 219 #[.string ⟨#[62,62,62]⟩] w fun e w'=>e= .returned (.int .i64 9)∧w=w':=by
 go_enter Tryz.func219,Tryz.ntmps219
 go_wp2_with fail
 go_ret
 exact⟨rfl,rfl⟩
theorem bE4 (w:World):Calls Tryz.prog 219 #[.string ⟨#[60]⟩] w fun e w'=>e= .returned (.int .i64 8)∧w=w':=by
 go_enter Tryz.func219,Tryz.ntmps219
 go_wp2_with fail
 go_ret
 exact⟨rfl,rfl⟩
theorem bt9 (w:World):Calls Tryz.prog 219 #[.string ⟨#[62]⟩] w fun e w'=>e= .returned (.int .i64 8)∧w=w':=by
 go_enter Tryz.func219,Tryz.ntmps219
 go_wp2_with fail
 go_ret
 exact⟨rfl,rfl⟩
theorem bu0 (w:World):Calls Tryz.prog 219 #[.string ⟨#[60,61]⟩] w fun e w'=>e= .returned (.int .i64 8)∧w=w':=by
 go_enter Tryz.func219,Tryz.ntmps219
 go_wp2_with fail
 go_ret
 exact⟨rfl,rfl⟩
theorem bu1 (w:World):Calls Tryz.prog 219 #[.string ⟨#[62,61]⟩] w fun e w'=>e= .returned (.int .i64 8)∧w=w':=by
 go_enter Tryz.func219,Tryz.ntmps219
 go_wp2_with fail
 go_ret
 exact⟨rfl,rfl⟩
theorem bu2 (w:World):Calls Tryz.prog 219 #[.string ⟨#[105,110]⟩] w fun e w'=>e= .returned (.int .i64 8)∧w=w':=by
 go_enter Tryz.func219,Tryz.ntmps219
 go_wp2_with fail
 go_ret
 exact⟨rfl,rfl⟩
theorem bu3 (w:World):Calls Tryz.prog 219 #[.string ⟨#[105,110,115,116,97,110,99,101,111,102]⟩] w fun e w'=>e= .returned (.int .i64 8)∧w=w':=by
 go_enter Tryz.func219,Tryz.ntmps219
 go_wp2_with fail
 go_ret
 exact⟨rfl,rfl⟩
theorem bu4 (w:World):Calls Tryz.prog 219 #[.string ⟨#[61,61]⟩] w fun e w'=>e= .returned (.int .i64 7)∧w=w':=by
 go_enter Tryz.func219,Tryz.ntmps219
 go_wp2_with fail
 go_ret
 exact⟨rfl,rfl⟩
theorem bu5 (w:World):Calls Tryz.prog 219 #[.string ⟨#[33,61]⟩] w fun e w'=>e= .returned (.int .i64 7)∧w=w':=by
 go_enter Tryz.func219,Tryz.ntmps219
 go_wp2_with fail
 go_ret
 exact⟨rfl,rfl⟩
theorem bu6 (w:World):Calls Tryz.prog 219 #[.string ⟨#[61,61,61]⟩] w fun e w'=>e= .returned (.int .i64 7)∧w=w':=by
 go_enter Tryz.func219,Tryz.ntmps219
 go_wp2_with fail
 go_ret
 exact⟨rfl,rfl⟩
theorem bu7 (w:World):Calls Tryz.prog 219 #[.string ⟨#[33,61,61]⟩] w fun e w'=>e= .returned (.int .i64 7)∧w=w':=by
 go_enter Tryz.func219,Tryz.ntmps219
 go_wp2_with fail
 go_ret
 exact⟨rfl,rfl⟩
theorem bu8 (w:World):Calls Tryz.prog 219 #[.string ⟨#[38]⟩] w fun e w'=>e= .returned (.int .i64 6)∧w=w':=by
 go_enter Tryz.func219,Tryz.ntmps219
 go_wp2_with fail
 go_ret
 exact⟨rfl,rfl⟩
theorem bu9 (w:World):Calls Tryz.prog 219 #[.string ⟨#[94]⟩] w fun e w'=>e= .returned (.int .i64 5)∧w=w':=by
 go_enter Tryz.func219,Tryz.ntmps219
 go_wp2_with fail
 go_ret
 exact⟨rfl,rfl⟩
theorem bv0 (w:World):Calls Tryz.prog 219 #[.string ⟨#[124]⟩] w fun e w'=>e= .returned (.int .i64 4)∧w=w':=by
 go_enter Tryz.func219,Tryz.ntmps219
 go_wp2_with fail
 go_ret
 exact⟨rfl,rfl⟩
theorem bv1 (w:World):Calls Tryz.prog 219 #[.string ⟨#[38,38]⟩] w fun e w'=>e= .returned (.int .i64 3)∧w=w':=by
 go_enter Tryz.func219,Tryz.ntmps219
 go_wp2_with fail
 go_ret
 exact⟨rfl,rfl⟩
theorem bv2 (w:World):Calls Tryz.prog 219 #[.string ⟨#[124,124]⟩] w fun e w'=>e= .returned (.int .i64 2)∧w=w':=by
 go_enter Tryz.func219,Tryz.ntmps219
 go_wp2_with fail
 go_ret
 exact⟨rfl,rfl⟩
theorem bv3 (w:World):Calls Tryz.prog 219 #[.string ⟨#[63,63]⟩] w fun e w'=>e= .returned (.int .i64 1)∧w=w':=by
 go_enter Tryz.func219,Tryz.ntmps219
 go_wp2_with fail
 go_ret
 exact⟨rfl,rfl⟩
theorem bv4 (t:ByteArray) (w:World) (h0:t≠⟨#[42,42]⟩) (h1:t≠⟨#[42]⟩) (h2:t≠⟨#[47]⟩) (h3:t≠⟨#[37]⟩) (h4:t≠⟨#[43]⟩) (h5:t≠⟨#[45]⟩) (h6:t≠⟨#[60,60]⟩) (h7:t≠⟨#[62,62]⟩) (h8:t≠⟨#[62,62,62]⟩) (h9:t≠⟨#[60]⟩) (h10:t≠⟨#[62]⟩) (h11:t≠⟨#[60,61]⟩) (h12:t≠⟨#[62,61]⟩) (h13:t≠⟨#[105,110]⟩) (h14:t≠⟨#[105,110,115,116,97,110,99,101,111,102]⟩) (h15:t≠⟨#[61,61]⟩) (h16:t≠⟨#[33,61]⟩) (h17:t≠⟨#[61,61,61]⟩) (h18:t≠⟨#[33,61,61]⟩) (h19:t≠⟨#[38]⟩) (h20:t≠⟨#[94]⟩) (h21:t≠⟨#[124]⟩) (h22:t≠⟨#[38,38]⟩) (h23:t≠⟨#[124,124]⟩) (h24:t≠⟨#[63,63]⟩):Calls Tryz.prog 219 #[.string t] w fun e w'=>e= .returned (.int .i64 0)∧w=w':=by
 have e0:=ac1 (l:= [42,42]) h0
 clear h0
 have e1:=ac1 (l:= [42]) h1
 clear h1
 have e2:=ac1 (l:= [47]) h2
 clear h2
 have e3:=ac1 (l:= [37]) h3
 clear h3
 have e4:=ac1 (l:= [43]) h4
 clear h4
 have e5:=ac1 (l:= [45]) h5
 clear h5
 have e6:=ac1 (l:= [60,60]) h6
 clear h6
 have e7:=ac1 (l:= [62,62]) h7
 clear h7
 have e8:=ac1 (l:= [62,62,62]) h8
 clear h8
 have e9:=ac1 (l:= [60]) h9
 clear h9
 have e10:=ac1 (l:= [62]) h10
 clear h10
 have e11:=ac1 (l:= [60,61]) h11
 clear h11
 have e12:=ac1 (l:= [62,61]) h12
 clear h12
 have e13:=ac1 (l:= [105,110]) h13
 clear h13
 have e14:=ac1 (l:= [105,110,115,116,97,110,99,101,111,102]) h14
 clear h14
 have e15:=ac1 (l:= [61,61]) h15
 clear h15
 have e16:=ac1 (l:= [33,61]) h16
 clear h16
 have e17:=ac1 (l:= [61,61,61]) h17
 clear h17
 have e18:=ac1 (l:= [33,61,61]) h18
 clear h18
 have e19:=ac1 (l:= [38]) h19
 clear h19
 have e20:=ac1 (l:= [94]) h20
 clear h20
 have e21:=ac1 (l:= [124]) h21
 clear h21
 have e22:=ac1 (l:= [38,38]) h22
 clear h22
 have e23:=ac1 (l:= [124,124]) h23
 clear h23
 have e24:=ac1 (l:= [63,63]) h24
 clear h24
 go_enter Tryz.func219,Tryz.ntmps219
 go_wp2_with fail
 go_ret
 exact⟨rfl,rfl⟩
theorem aD8 (t:ByteArray) (w:World):Calls Tryz.prog 219 #[.string t] w fun e w'=>e= .returned (.int .i64 (ad3 t))∧w=w':=by
 by_cases h0:t=⟨#[42,42]⟩
 ·subst h0;rw [show ad3 ⟨#[42,42]⟩=12 by decide+kernel];exact bD5 w
 by_cases h1:t=⟨#[42]⟩
 ·subst h1;rw [show ad3 ⟨#[42]⟩=11 by decide+kernel];exact bD6 w
 by_cases h2:t=⟨#[47]⟩
 ·subst h2;rw [show ad3 ⟨#[47]⟩=11 by decide+kernel];exact bD7 w
 by_cases h3:t=⟨#[37]⟩
 ·subst h3;rw [show ad3 ⟨#[37]⟩=11 by decide+kernel];exact bD8 w
 by_cases h4:t=⟨#[43]⟩
 ·subst h4;rw [show ad3 ⟨#[43]⟩=10 by decide+kernel];exact bD9 w
 by_cases h5:t=⟨#[45]⟩
 ·subst h5;rw [show ad3 ⟨#[45]⟩=10 by decide+kernel];exact bE0 w
 by_cases h6:t=⟨#[60,60]⟩
 ·subst h6;rw [show ad3 ⟨#[60,60]⟩=9 by decide+kernel];exact bE1 w
 by_cases h7:t=⟨#[62,62]⟩
 ·subst h7;rw [show ad3 ⟨#[62,62]⟩=9 by decide+kernel];exact bE2 w
 by_cases h8:t=⟨#[62,62,62]⟩
 ·subst h8;rw [show ad3 ⟨#[62,62,62]⟩=9 by decide+kernel];exact bE3 w
 by_cases h9:t=⟨#[60]⟩
 ·subst h9;rw [show ad3 ⟨#[60]⟩=8 by decide+kernel];exact bE4 w
 by_cases h10:t=⟨#[62]⟩
 ·subst h10;rw [show ad3 ⟨#[62]⟩=8 by decide+kernel];exact bt9 w
 by_cases h11:t=⟨#[60,61]⟩
 ·subst h11;rw [show ad3 ⟨#[60,61]⟩=8 by decide+kernel];exact bu0 w
 by_cases h12:t=⟨#[62,61]⟩
 ·subst h12;rw [show ad3 ⟨#[62,61]⟩=8 by decide+kernel];exact bu1 w
 by_cases h13:t=⟨#[105,110]⟩
 ·subst h13;rw [show ad3 ⟨#[105,110]⟩=8 by decide+kernel];exact bu2 w
 by_cases h14:t=⟨#[105,110,115,116,97,110,99,101,111,102]⟩
 ·subst h14;rw [show ad3 ⟨#[105,110,115,116,97,110,99,101,111,102]⟩=8 by decide+kernel];exact bu3 w
 by_cases h15:t=⟨#[61,61]⟩
 ·subst h15;rw [show ad3 ⟨#[61,61]⟩=7 by decide+kernel];exact bu4 w
 by_cases h16:t=⟨#[33,61]⟩
 ·subst h16;rw [show ad3 ⟨#[33,61]⟩=7 by decide+kernel];exact bu5 w
 by_cases h17:t=⟨#[61,61,61]⟩
 ·subst h17;rw [show ad3 ⟨#[61,61,61]⟩=7 by decide+kernel];exact bu6 w
 by_cases h18:t=⟨#[33,61,61]⟩
 ·subst h18;rw [show ad3 ⟨#[33,61,61]⟩=7 by decide+kernel];exact bu7 w
 by_cases h19:t=⟨#[38]⟩
 ·subst h19;rw [show ad3 ⟨#[38]⟩=6 by decide+kernel];exact bu8 w
 by_cases h20:t=⟨#[94]⟩
 ·subst h20;rw [show ad3 ⟨#[94]⟩=5 by decide+kernel];exact bu9 w
 by_cases h21:t=⟨#[124]⟩
 ·subst h21;rw [show ad3 ⟨#[124]⟩=4 by decide+kernel];exact bv0 w
 by_cases h22:t=⟨#[38,38]⟩
 ·subst h22;rw [show ad3 ⟨#[38,38]⟩=3 by decide+kernel];exact bv1 w
 by_cases h23:t=⟨#[124,124]⟩
 ·subst h23;rw [show ad3 ⟨#[124,124]⟩=2 by decide+kernel];exact bv2 w
 by_cases h24:t=⟨#[63,63]⟩
 ·subst h24;rw [show ad3 ⟨#[63,63]⟩=1 by decide+kernel];exact bv3 w
 rw [show ad3 t=0 by unfold ad3 ao0;simp [h0,h1,h2,h3,h4,h5,h6,h7,h8,h9,h10,h11,h12,h13,h14,h15,h16,h17,h18,h19,h20,h21,h22,h23,h24]]
 exact bv4 t w h0 h1 h2 h3 h4 h5 h6 h7 h8 h9 h10 h11 h12 h13 h14 h15 h16 h17 h18 h19 h20 h21 h22 h23 h24
theorem bf5 (m:Bool) (w:World):Calls Tryz.prog 149 #[.string ⟨#[98,114,101,97,107]⟩,.bool m] w fun e w'=>e= .returned (.bool true)∧w=w':=by
 go_enter Tryz.func149,Tryz.ntmps149
 go_wp2_with fail
 go_ret
 exact⟨rfl,rfl⟩
theorem bf6 (m:Bool) (w:World):Calls Tryz.prog 149 #[.string ⟨#[99,97,115,101]⟩,.bool m] w fun e w'=>e= .returned (.bool true)∧w=w':=by
 go_enter Tryz.func149,Tryz.ntmps149
 go_wp2_with fail
 go_ret
 exact⟨rfl,rfl⟩
theorem bf7 (m:Bool) (w:World):Calls Tryz.prog 149 #[.string ⟨#[99,97,116,99,104]⟩,.bool m] w fun e w'=>e= .returned (.bool true)∧w=w':=by
 go_enter Tryz.func149,Tryz.ntmps149
 go_wp2_with fail
 go_ret
 exact⟨rfl,rfl⟩
theorem bf8 (m:Bool) (w:World):Calls Tryz.prog 149 #[.string ⟨#[99,108,97,115,115]⟩,.bool m] w fun e w'=>e= .returned (.bool true)∧w=w':=by
 go_enter Tryz.func149,Tryz.ntmps149
 go_wp2_with fail
 go_ret
 exact⟨rfl,rfl⟩
theorem bf9 (m:Bool) (w:World):Calls Tryz.prog 149 #[.string ⟨#[99,111,110,115,116]⟩,.bool m] w fun e w'=>e= .returned (.bool true)∧w=w':=by
 go_enter Tryz.func149,Tryz.ntmps149
 go_wp2_with fail
 go_ret
 exact⟨rfl,rfl⟩
theorem bg0 (m:Bool) (w:World):Calls Tryz.prog 149 #[.string ⟨#[99,111,110,116,105,110,117,101]⟩,.bool m] w fun e w'=>e= .returned (.bool true)∧w=w':=by
 go_enter Tryz.func149,Tryz.ntmps149
 go_wp2_with fail
 go_ret
 exact⟨rfl,rfl⟩
theorem bg1 (m:Bool) (w:World):Calls Tryz.prog 149 #[.string ⟨#[100,101,98,117,103,103,101,114]⟩,.bool m] w fun e w'=>e= .returned (.bool true)∧w=w':=by
 go_enter Tryz.func149,Tryz.ntmps149
 go_wp2_with fail
 go_ret
 exact⟨rfl,rfl⟩
theorem bg2 (m:Bool) (w:World):Calls Tryz.prog 149 #[.string ⟨#[100,101,102,97,117,108,116]⟩,.bool m] w fun e w'=>e= .returned (.bool true)∧w=w':=by
 go_enter Tryz.func149,Tryz.ntmps149
 go_wp2_with fail
 go_ret
 exact⟨rfl,rfl⟩
theorem bg3 (m:Bool) (w:World):Calls Tryz.prog 149 #[.string ⟨#[100,101,108,101,116,101]⟩,.bool m] w fun e w'=>e= .returned (.bool true)∧w=w':=by
 go_enter Tryz.func149,Tryz.ntmps149
 go_wp2_with fail
 go_ret
 exact⟨rfl,rfl⟩
theorem bg4 (m:Bool) (w:World):Calls Tryz.prog 149 #[.string ⟨#[100,111]⟩,.bool m] w fun e w'=>e= .returned (.bool true)∧w=w':=by
 go_enter Tryz.func149,Tryz.ntmps149
 go_wp2_with fail
 go_ret
 exact⟨rfl,rfl⟩
theorem aU2 (m:Bool) (w:World):Calls Tryz.prog 149 #[.string ⟨#[101,108,115,101]⟩,.bool m] w fun e w'=>e= .returned (.bool true)∧w=w':=by
 go_enter Tryz.func149,Tryz.ntmps149
 go_wp2_with fail
 go_ret
 exact⟨rfl,rfl⟩
theorem aU3 (m:Bool) (w:World):Calls Tryz.prog 149 #[.string ⟨#[101,110,117,109]⟩,.bool m] w fun e w'=>e= .returned (.bool true)∧w=w':=by
 go_enter Tryz.func149,Tryz.ntmps149
 go_wp2_with fail
 go_ret
 exact⟨rfl,rfl⟩
theorem aU4 (m:Bool) (w:World):Calls Tryz.prog 149 #[.string ⟨#[101,120,112,111,114,116]⟩,.bool m] w fun e w'=>e= .returned (.bool true)∧w=w':=by
 go_enter Tryz.func149,Tryz.ntmps149
 go_wp2_with fail
 go_ret
 exact⟨rfl,rfl⟩
theorem aU5 (m:Bool) (w:World):Calls Tryz.prog 149 #[.string ⟨#[101,120,116,101,110,100,115]⟩,.bool m] w fun e w'=>e= .returned (.bool true)∧w=w':=by
 go_enter Tryz.func149,Tryz.ntmps149
 go_wp2_with fail
 go_ret
 exact⟨rfl,rfl⟩
theorem aU6 (m:Bool) (w:World):Calls Tryz.prog 149 #[.string ⟨#[102,97,108,115,101]⟩,.bool m] w fun e w'=>e= .returned (.bool true)∧w=w':=by
 go_enter Tryz.func149,Tryz.ntmps149
 go_wp2_with fail
 go_ret
 exact⟨rfl,rfl⟩
theorem aU7 (m:Bool) (w:World):Calls Tryz.prog 149 #[.string ⟨#[102,105,110,97,108,108,121]⟩,.bool m] w fun e w'=>e= .returned (.bool true)∧w=w':=by
 go_enter Tryz.func149,Tryz.ntmps149
 go_wp2_with fail
 go_ret
 exact⟨rfl,rfl⟩
theorem aU8 (m:Bool) (w:World):Calls Tryz.prog 149 #[.string ⟨#[102,111,114]⟩,.bool m] w fun e w'=>e= .returned (.bool true)∧w=w':=by
 go_enter Tryz.func149,Tryz.ntmps149
 go_wp2_with fail
 go_ret
 exact⟨rfl,rfl⟩
theorem aU9 (m:Bool) (w:World):Calls Tryz.prog 149 #[.string ⟨#[102,117,110,99,116,105,111,110]⟩,.bool m] w fun e w'=>e= .returned (.bool true)∧w=w':=by
 go_enter Tryz.func149,Tryz.ntmps149
 go_wp2_with fail
 go_ret
 exact⟨rfl,rfl⟩
theorem aV0 (m:Bool) (w:World):Calls Tryz.prog 149 #[.string ⟨#[105,102]⟩,.bool m] w fun e w'=>e= .returned (.bool true)∧w=w':=by
 go_enter Tryz.func149,Tryz.ntmps149
 go_wp2_with fail
 go_ret
 exact⟨rfl,rfl⟩
theorem aV1 (m:Bool) (w:World):Calls Tryz.prog 149 #[.string ⟨#[105,109,112,108,101,109,101,110,116,115]⟩,.bool m] w fun e w'=>e= .returned (.bool true)∧w=w':=by
 go_enter Tryz.func149,Tryz.ntmps149
 go_wp2_with fail
 go_ret
 exact⟨rfl,rfl⟩
theorem aV2 (m:Bool) (w:World):Calls Tryz.prog 149 #[.string ⟨#[105,109,112,111,114,116]⟩,.bool m] w fun e w'=>e= .returned (.bool true)∧w=w':=by
 go_enter Tryz.func149,Tryz.ntmps149
 go_wp2_with fail
 go_ret
 exact⟨rfl,rfl⟩
theorem aV3 (m:Bool) (w:World):Calls Tryz.prog 149 #[.string ⟨#[105,110]⟩,.bool m] w fun e w'=>e= .returned (.bool true)∧w=w':=by
 go_enter Tryz.func149,Tryz.ntmps149
 go_wp2_with fail
 go_ret
 exact⟨rfl,rfl⟩
theorem aV4 (m:Bool) (w:World):Calls Tryz.prog 149 #[.string ⟨#[105,110,115,116,97,110,99,101,111,102]⟩,.bool m] w fun e w'=>e= .returned (.bool true)∧w=w':=by
 go_enter Tryz.func149,Tryz.ntmps149
 go_wp2_with fail
 go_ret
 exact⟨rfl,rfl⟩
theorem aV5 (m:Bool) (w:World):Calls Tryz.prog 149 #[.string ⟨#[105,110,116,101,114,102,97,99,101]⟩,.bool m] w fun e w'=>e= .returned (.bool true)∧w=w':=by
 go_enter Tryz.func149,Tryz.ntmps149
 go_wp2_with fail
 go_ret
 exact⟨rfl,rfl⟩
theorem aV6 (m:Bool) (w:World):Calls Tryz.prog 149 #[.string ⟨#[108,101,116]⟩,.bool m] w fun e w'=>e= .returned (.bool true)∧w=w':=by
 go_enter Tryz.func149,Tryz.ntmps149
 go_wp2_with fail
 go_ret
 exact⟨rfl,rfl⟩
theorem aV7 (m:Bool) (w:World):Calls Tryz.prog 149 #[.string ⟨#[110,101,119]⟩,.bool m] w fun e w'=>e= .returned (.bool true)∧w=w':=by
 go_enter Tryz.func149,Tryz.ntmps149
 go_wp2_with fail
 go_ret
 exact⟨rfl,rfl⟩
theorem aV8 (m:Bool) (w:World):Calls Tryz.prog 149 #[.string ⟨#[110,117,108,108]⟩,.bool m] w fun e w'=>e= .returned (.bool true)∧w=w':=by
 go_enter Tryz.func149,Tryz.ntmps149
 go_wp2_with fail
 go_ret
 exact⟨rfl,rfl⟩
theorem aV9 (m:Bool) (w:World):Calls Tryz.prog 149 #[.string ⟨#[112,97,99,107,97,103,101]⟩,.bool m] w fun e w'=>e= .returned (.bool true)∧w=w':=by
 go_enter Tryz.func149,Tryz.ntmps149
 go_wp2_with fail
 go_ret
 exact⟨rfl,rfl⟩
theorem aW0 (m:Bool) (w:World):Calls Tryz.prog 149 #[.string ⟨#[112,114,105,118,97,116,101]⟩,.bool m] w fun e w'=>e= .returned (.bool true)∧w=w':=by
 go_enter Tryz.func149,Tryz.ntmps149
 go_wp2_with fail
 go_ret
 exact⟨rfl,rfl⟩
theorem aW1 (m:Bool) (w:World):Calls Tryz.prog 149 #[.string ⟨#[112,114,111,116,101,99,116,101,100]⟩,.bool m] w fun e w'=>e= .returned (.bool true)∧w=w':=by
 go_enter Tryz.func149,Tryz.ntmps149
 go_wp2_with fail
 go_ret
 exact⟨rfl,rfl⟩
theorem aW2 (m:Bool) (w:World):Calls Tryz.prog 149 #[.string ⟨#[112,117,98,108,105,99]⟩,.bool m] w fun e w'=>e= .returned (.bool true)∧w=w':=by
 go_enter Tryz.func149,Tryz.ntmps149
 go_wp2_with fail
 go_ret
 exact⟨rfl,rfl⟩
theorem aW3 (m:Bool) (w:World):Calls Tryz.prog 149 #[.string ⟨#[114,101,116,117,114,110]⟩,.bool m] w fun e w'=>e= .returned (.bool true)∧w=w':=by
 go_enter Tryz.func149,Tryz.ntmps149
 go_wp2_with fail
 go_ret
 exact⟨rfl,rfl⟩
theorem aW4 (m:Bool) (w:World):Calls Tryz.prog 149 #[.string ⟨#[115,116,97,116,105,99]⟩,.bool m] w fun e w'=>e= .returned (.bool true)∧w=w':=by
 go_enter Tryz.func149,Tryz.ntmps149
 go_wp2_with fail
 go_ret
 exact⟨rfl,rfl⟩
theorem aW5 (m:Bool) (w:World):Calls Tryz.prog 149 #[.string ⟨#[115,117,112,101,114]⟩,.bool m] w fun e w'=>e= .returned (.bool true)∧w=w':=by
 go_enter Tryz.func149,Tryz.ntmps149
 go_wp2_with fail
 go_ret
 exact⟨rfl,rfl⟩
theorem aW6 (m:Bool) (w:World):Calls Tryz.prog 149 #[.string ⟨#[115,119,105,116,99,104]⟩,.bool m] w fun e w'=>e= .returned (.bool true)∧w=w':=by
 go_enter Tryz.func149,Tryz.ntmps149
 go_wp2_with fail
 go_ret
 exact⟨rfl,rfl⟩
theorem aW7 (m:Bool) (w:World):Calls Tryz.prog 149 #[.string ⟨#[116,104,105,115]⟩,.bool m] w fun e w'=>e= .returned (.bool true)∧w=w':=by
 go_enter Tryz.func149,Tryz.ntmps149
 go_wp2_with fail
 go_ret
 exact⟨rfl,rfl⟩
theorem aW8 (m:Bool) (w:World):Calls Tryz.prog 149 #[.string ⟨#[116,104,114,111,119]⟩,.bool m] w fun e w'=>e= .returned (.bool true)∧w=w':=by
 go_enter Tryz.func149,Tryz.ntmps149
 go_wp2_with fail
 go_ret
 exact⟨rfl,rfl⟩
theorem aW9 (m:Bool) (w:World):Calls Tryz.prog 149 #[.string ⟨#[116,114,117,101]⟩,.bool m] w fun e w'=>e= .returned (.bool true)∧w=w':=by
 go_enter Tryz.func149,Tryz.ntmps149
 go_wp2_with fail
 go_ret
 exact⟨rfl,rfl⟩
theorem aX0 (m:Bool) (w:World):Calls Tryz.prog 149 #[.string ⟨#[116,114,121]⟩,.bool m] w fun e w'=>e= .returned (.bool true)∧w=w':=by
 go_enter Tryz.func149,Tryz.ntmps149
 go_wp2_with fail
 go_ret
 exact⟨rfl,rfl⟩
theorem aX1 (m:Bool) (w:World):Calls Tryz.prog 149 #[.string ⟨#[116,121,112,101,111,102]⟩,.bool m] w fun e w'=>e= .returned (.bool true)∧w=w':=by
 go_enter Tryz.func149,Tryz.ntmps149
 go_wp2_with fail
 go_ret
 exact⟨rfl,rfl⟩
theorem aX2 (m:Bool) (w:World):Calls Tryz.prog 149 #[.string ⟨#[118,97,114]⟩,.bool m] w fun e w'=>e= .returned (.bool true)∧w=w':=by
 go_enter Tryz.func149,Tryz.ntmps149
 go_wp2_with fail
 go_ret
 exact⟨rfl,rfl⟩
theorem aX3 (m:Bool) (w:World):Calls Tryz.prog 149 #[.string ⟨#[118,111,105,100]⟩,.bool m] w fun e w'=>e= .returned (.bool true)∧w=w':=by
 go_enter Tryz.func149,Tryz.ntmps149
 go_wp2_with fail
 go_ret
 exact⟨rfl,rfl⟩
theorem aX4 (m:Bool) (w:World):Calls Tryz.prog 149 #[.string ⟨#[119,104,105,108,101]⟩,.bool m] w fun e w'=>e= .returned (.bool true)∧w=w':=by
 go_enter Tryz.func149,Tryz.ntmps149
 go_wp2_with fail
 go_ret
 exact⟨rfl,rfl⟩
theorem aX5 (m:Bool) (w:World):Calls Tryz.prog 149 #[.string ⟨#[119,105,116,104]⟩,.bool m] w fun e w'=>e= .returned (.bool true)∧w=w':=by
 go_enter Tryz.func149,Tryz.ntmps149
 go_wp2_with fail
 go_ret
 exact⟨rfl,rfl⟩
theorem aX6 (m:Bool) (w:World):Calls Tryz.prog 149 #[.string ⟨#[121,105,101,108,100]⟩,.bool m] w fun e w'=>e= .returned (.bool true)∧w=w':=by
 go_enter Tryz.func149,Tryz.ntmps149
 go_wp2_with fail
 go_ret
 exact⟨rfl,rfl⟩
theorem aX7 (m:Bool) (w:World):Calls Tryz.prog 149 #[.string ⟨#[97,119,97,105,116]⟩,.bool m] w fun e w'=>e= .returned (.bool m)∧w=w':=by
 go_enter Tryz.func149,Tryz.ntmps149
 go_wp2_with fail
 go_ret
 exact⟨rfl,rfl⟩
theorem aX8 (t:ByteArray) (m:Bool) (w:World) (h0:t≠⟨#[97,119,97,105,116]⟩) (h1:t≠⟨#[98,114,101,97,107]⟩) (h2:t≠⟨#[99,97,115,101]⟩) (h3:t≠⟨#[99,97,116,99,104]⟩) (h4:t≠⟨#[99,108,97,115,115]⟩) (h5:t≠⟨#[99,111,110,115,116]⟩) (h6:t≠⟨#[99,111,110,116,105,110,117,101]⟩) (h7:t≠⟨#[100,101,98,117,103,103,101,114]⟩) (h8:t≠⟨#[100,101,102,97,117,108,116]⟩) (h9:t≠⟨#[100,101,108,101,116,101]⟩) (h10:t≠⟨#[100,111]⟩) (h11:t≠⟨#[101,108,115,101]⟩) (h12:t≠⟨#[101,110,117,109]⟩) (h13:t≠⟨#[101,120,112,111,114,116]⟩) (h14:t≠⟨#[101,120,116,101,110,100,115]⟩) (h15:t≠⟨#[102,97,108,115,101]⟩) (h16:t≠⟨#[102,105,110,97,108,108,121]⟩) (h17:t≠⟨#[102,111,114]⟩) (h18:t≠⟨#[102,117,110,99,116,105,111,110]⟩) (h19:t≠⟨#[105,102]⟩) (h20:t≠⟨#[105,109,112,108,101,109,101,110,116,115]⟩) (h21:t≠⟨#[105,109,112,111,114,116]⟩) (h22:t≠⟨#[105,110]⟩) (h23:t≠⟨#[105,110,115,116,97,110,99,101,111,102]⟩) (h24:t≠⟨#[105,110,116,101,114,102,97,99,101]⟩) (h25:t≠⟨#[108,101,116]⟩) (h26:t≠⟨#[110,101,119]⟩) (h27:t≠⟨#[110,117,108,108]⟩) (h28:t≠⟨#[112,97,99,107,97,103,101]⟩) (h29:t≠⟨#[112,114,105,118,97,116,101]⟩) (h30:t≠⟨#[112,114,111,116,101,99,116,101,100]⟩) (h31:t≠⟨#[112,117,98,108,105,99]⟩) (h32:t≠⟨#[114,101,116,117,114,110]⟩) (h33:t≠⟨#[115,116,97,116,105,99]⟩) (h34:t≠⟨#[115,117,112,101,114]⟩) (h35:t≠⟨#[115,119,105,116,99,104]⟩) (h36:t≠⟨#[116,104,105,115]⟩) (h37:t≠⟨#[116,104,114,111,119]⟩) (h38:t≠⟨#[116,114,117,101]⟩) (h39:t≠⟨#[116,114,121]⟩) (h40:t≠⟨#[116,121,112,101,111,102]⟩) (h41:t≠⟨#[118,97,114]⟩) (h42:t≠⟨#[118,111,105,100]⟩) (h43:t≠⟨#[119,104,105,108,101]⟩) (h44:t≠⟨#[119,105,116,104]⟩) (h45:t≠⟨#[121,105,101,108,100]⟩):Calls Tryz.prog 149 #[.string t,.bool m] w fun e w'=>e= .returned (.bool false)∧w=w':=by
 have e0:=ac1 (l:= [97,119,97,105,116]) h0
 clear h0
 have e1:=ac1 (l:= [98,114,101,97,107]) h1
 clear h1
 have e2:=ac1 (l:= [99,97,115,101]) h2
 clear h2
 have e3:=ac1 (l:= [99,97,116,99,104]) h3
 clear h3
 have e4:=ac1 (l:= [99,108,97,115,115]) h4
 clear h4
 have e5:=ac1 (l:= [99,111,110,115,116]) h5
 clear h5
 have e6:=ac1 (l:= [99,111,110,116,105,110,117,101]) h6
 clear h6
 have e7:=ac1 (l:= [100,101,98,117,103,103,101,114]) h7
 clear h7
 have e8:=ac1 (l:= [100,101,102,97,117,108,116]) h8
 clear h8
 have e9:=ac1 (l:= [100,101,108,101,116,101]) h9
 clear h9
 have e10:=ac1 (l:= [100,111]) h10
 clear h10
 have e11:=ac1 (l:= [101,108,115,101]) h11
 clear h11
 have e12:=ac1 (l:= [101,110,117,109]) h12
 clear h12
 have e13:=ac1 (l:= [101,120,112,111,114,116]) h13
 clear h13
 have e14:=ac1 (l:= [101,120,116,101,110,100,115]) h14
 clear h14
 have e15:=ac1 (l:= [102,97,108,115,101]) h15
 clear h15
 have e16:=ac1 (l:= [102,105,110,97,108,108,121]) h16
 clear h16
 have e17:=ac1 (l:= [102,111,114]) h17
 clear h17
 have e18:=ac1 (l:= [102,117,110,99,116,105,111,110]) h18
 clear h18
 have e19:=ac1 (l:= [105,102]) h19
 clear h19
 have e20:=ac1 (l:= [105,109,112,108,101,109,101,110,116,115]) h20
 clear h20
 have e21:=ac1 (l:= [105,109,112,111,114,116]) h21
 clear h21
 have e22:=ac1 (l:= [105,110]) h22
 clear h22
 have e23:=ac1 (l:= [105,110,115,116,97,110,99,101,111,102]) h23
 clear h23
 have e24:=ac1 (l:= [105,110,116,101,114,102,97,99,101]) h24
 clear h24
 have e25:=ac1 (l:= [108,101,116]) h25
 clear h25
 have e26:=ac1 (l:= [110,101,119]) h26
 clear h26
 have e27:=ac1 (l:= [110,117,108,108]) h27
 clear h27
 have e28:=ac1 (l:= [112,97,99,107,97,103,101]) h28
 clear h28
 have e29:=ac1 (l:= [112,114,105,118,97,116,101]) h29
 clear h29
 have e30:=ac1 (l:= [112,114,111,116,101,99,116,101,100]) h30
 clear h30
 have e31:=ac1 (l:= [112,117,98,108,105,99]) h31
 clear h31
 have e32:=ac1 (l:= [114,101,116,117,114,110]) h32
 clear h32
 have e33:=ac1 (l:= [115,116,97,116,105,99]) h33
 clear h33
 have e34:=ac1 (l:= [115,117,112,101,114]) h34
 clear h34
 have e35:=ac1 (l:= [115,119,105,116,99,104]) h35
 clear h35
 have e36:=ac1 (l:= [116,104,105,115]) h36
 clear h36
 have e37:=ac1 (l:= [116,104,114,111,119]) h37
 clear h37
 have e38:=ac1 (l:= [116,114,117,101]) h38
 clear h38
 have e39:=ac1 (l:= [116,114,121]) h39
 clear h39
 have e40:=ac1 (l:= [116,121,112,101,111,102]) h40
 clear h40
 have e41:=ac1 (l:= [118,97,114]) h41
 clear h41
 have e42:=ac1 (l:= [118,111,105,100]) h42
 clear h42
 have e43:=ac1 (l:= [119,104,105,108,101]) h43
 clear h43
 have e44:=ac1 (l:= [119,105,116,104]) h44
 clear h44
 have e45:=ac1 (l:= [121,105,101,108,100]) h45
 clear h45
 go_enter Tryz.func149,Tryz.ntmps149
 go_wp2_with fail
 go_ret
 exact⟨rfl,rfl⟩
theorem aQ7 (t:ByteArray) (m:Bool) (w:World):Calls Tryz.prog 149 #[.string t,.bool m] w fun e w'=>e= .returned (.bool (aa1 t m))∧w=w':=by
 by_cases h0:t=⟨#[97,119,97,105,116]⟩
 ·subst h0;rw [show aa1 ⟨#[97,119,97,105,116]⟩ m=m by unfold aa1;rw [if_pos rfl]];exact aX7 m w
 by_cases h1:t=⟨#[98,114,101,97,107]⟩
 ·subst h1;rw [show aa1 ⟨#[98,114,101,97,107]⟩ m=true by cases m<;>decide+kernel];exact bf5 m w
 by_cases h2:t=⟨#[99,97,115,101]⟩
 ·subst h2;rw [show aa1 ⟨#[99,97,115,101]⟩ m=true by cases m<;>decide+kernel];exact bf6 m w
 by_cases h3:t=⟨#[99,97,116,99,104]⟩
 ·subst h3;rw [show aa1 ⟨#[99,97,116,99,104]⟩ m=true by cases m<;>decide+kernel];exact bf7 m w
 by_cases h4:t=⟨#[99,108,97,115,115]⟩
 ·subst h4;rw [show aa1 ⟨#[99,108,97,115,115]⟩ m=true by cases m<;>decide+kernel];exact bf8 m w
 by_cases h5:t=⟨#[99,111,110,115,116]⟩
 ·subst h5;rw [show aa1 ⟨#[99,111,110,115,116]⟩ m=true by cases m<;>decide+kernel];exact bf9 m w
 by_cases h6:t=⟨#[99,111,110,116,105,110,117,101]⟩
 ·subst h6;rw [show aa1 ⟨#[99,111,110,116,105,110,117,101]⟩ m=true by cases m<;>decide+kernel];exact bg0 m w
 by_cases h7:t=⟨#[100,101,98,117,103,103,101,114]⟩
 ·subst h7;rw [show aa1 ⟨#[100,101,98,117,103,103,101,114]⟩ m=true by cases m<;>decide+kernel];exact bg1 m w
 by_cases h8:t=⟨#[100,101,102,97,117,108,116]⟩
 ·subst h8;rw [show aa1 ⟨#[100,101,102,97,117,108,116]⟩ m=true by cases m<;>decide+kernel];exact bg2 m w
 by_cases h9:t=⟨#[100,101,108,101,116,101]⟩
 ·subst h9;rw [show aa1 ⟨#[100,101,108,101,116,101]⟩ m=true by cases m<;>decide+kernel];exact bg3 m w
 by_cases h10:t=⟨#[100,111]⟩
 ·subst h10;rw [show aa1 ⟨#[100,111]⟩ m=true by cases m<;>decide+kernel];exact bg4 m w
 by_cases h11:t=⟨#[101,108,115,101]⟩
 ·subst h11;rw [show aa1 ⟨#[101,108,115,101]⟩ m=true by cases m<;>decide+kernel];exact aU2 m w
 by_cases h12:t=⟨#[101,110,117,109]⟩
 ·subst h12;rw [show aa1 ⟨#[101,110,117,109]⟩ m=true by cases m<;>decide+kernel];exact aU3 m w
 by_cases h13:t=⟨#[101,120,112,111,114,116]⟩
 ·subst h13;rw [show aa1 ⟨#[101,120,112,111,114,116]⟩ m=true by cases m<;>decide+kernel];exact aU4 m w
 by_cases h14:t=⟨#[101,120,116,101,110,100,115]⟩
 ·subst h14;rw [show aa1 ⟨#[101,120,116,101,110,100,115]⟩ m=true by cases m<;>decide+kernel];exact aU5 m w
 by_cases h15:t=⟨#[102,97,108,115,101]⟩
 ·subst h15;rw [show aa1 ⟨#[102,97,108,115,101]⟩ m=true by cases m<;>decide+kernel];exact aU6 m w
 by_cases h16:t=⟨#[102,105,110,97,108,108,121]⟩
 ·subst h16;rw [show aa1 ⟨#[102,105,110,97,108,108,121]⟩ m=true by cases m<;>decide+kernel];exact aU7 m w
 by_cases h17:t=⟨#[102,111,114]⟩
 ·subst h17;rw [show aa1 ⟨#[102,111,114]⟩ m=true by cases m<;>decide+kernel];exact aU8 m w
 by_cases h18:t=⟨#[102,117,110,99,116,105,111,110]⟩
 ·subst h18;rw [show aa1 ⟨#[102,117,110,99,116,105,111,110]⟩ m=true by cases m<;>decide+kernel];exact aU9 m w
 by_cases h19:t=⟨#[105,102]⟩
 ·subst h19;rw [show aa1 ⟨#[105,102]⟩ m=true by cases m<;>decide+kernel];exact aV0 m w
 by_cases h20:t=⟨#[105,109,112,108,101,109,101,110,116,115]⟩
 ·subst h20;rw [show aa1 ⟨#[105,109,112,108,101,109,101,110,116,115]⟩ m=true by cases m<;>decide+kernel];exact aV1 m w
 by_cases h21:t=⟨#[105,109,112,111,114,116]⟩
 ·subst h21;rw [show aa1 ⟨#[105,109,112,111,114,116]⟩ m=true by cases m<;>decide+kernel];exact aV2 m w
 by_cases h22:t=⟨#[105,110]⟩
 ·subst h22;rw [show aa1 ⟨#[105,110]⟩ m=true by cases m<;>decide+kernel];exact aV3 m w
 by_cases h23:t=⟨#[105,110,115,116,97,110,99,101,111,102]⟩
 ·subst h23;rw [show aa1 ⟨#[105,110,115,116,97,110,99,101,111,102]⟩ m=true by cases m<;>decide+kernel];exact aV4 m w
 by_cases h24:t=⟨#[105,110,116,101,114,102,97,99,101]⟩
 ·subst h24;rw [show aa1 ⟨#[105,110,116,101,114,102,97,99,101]⟩ m=true by cases m<;>decide+kernel];exact aV5 m w
 by_cases h25:t=⟨#[108,101,116]⟩
 ·subst h25;rw [show aa1 ⟨#[108,101,116]⟩ m=true by cases m<;>decide+kernel];exact aV6 m w
 by_cases h26:t=⟨#[110,101,119]⟩
 ·subst h26;rw [show aa1 ⟨#[110,101,119]⟩ m=true by cases m<;>decide+kernel];exact aV7 m w
 by_cases h27:t=⟨#[110,117,108,108]⟩
 ·subst h27;rw [show aa1 ⟨#[110,117,108,108]⟩ m=true by cases m<;>decide+kernel];exact aV8 m w
 by_cases h28:t=⟨#[112,97,99,107,97,103,101]⟩
 ·subst h28;rw [show aa1 ⟨#[112,97,99,107,97,103,101]⟩ m=true by cases m<;>decide+kernel];exact aV9 m w
 by_cases h29:t=⟨#[112,114,105,118,97,116,101]⟩
 ·subst h29;rw [show aa1 ⟨#[112,114,105,118,97,116,101]⟩ m=true by cases m<;>decide+kernel];exact aW0 m w
 by_cases h30:t=⟨#[112,114,111,116,101,99,116,101,100]⟩
 ·subst h30;rw [show aa1 ⟨#[112,114,111,116,101,99,116,101,100]⟩ m=true by cases m<;>decide+kernel];exact aW1 m w
 by_cases h31:t=⟨#[112,117,98,108,105,99]⟩
 ·subst h31;rw [show aa1 ⟨#[112,117,98,108,105,99]⟩ m=true by cases m<;>decide+kernel];exact aW2 m w
 by_cases h32:t=⟨#[114,101,116,117,114,110]⟩
 ·subst h32;rw [show aa1 ⟨#[114,101,116,117,114,110]⟩ m=true by cases m<;>decide+kernel];exact aW3 m w
 by_cases h33:t=⟨#[115,116,97,116,105,99]⟩
 ·subst h33;rw [show aa1 ⟨#[115,116,97,116,105,99]⟩ m=true by cases m<;>decide+kernel];exact aW4 m w
 by_cases h34:t=⟨#[115,117,112,101,114]⟩
 ·subst h34;rw [show aa1 ⟨#[115,117,112,101,114]⟩ m=true by cases m<;>decide+kernel];exact aW5 m w
 by_cases h35:t=⟨#[115,119,105,116,99,104]⟩
 ·subst h35;rw [show aa1 ⟨#[115,119,105,116,99,104]⟩ m=true by cases m<;>decide+kernel];exact aW6 m w
 by_cases h36:t=⟨#[116,104,105,115]⟩
 ·subst h36;rw [show aa1 ⟨#[116,104,105,115]⟩ m=true by cases m<;>decide+kernel];exact aW7 m w
 by_cases h37:t=⟨#[116,104,114,111,119]⟩
 ·subst h37;rw [show aa1 ⟨#[116,104,114,111,119]⟩ m=true by cases m<;>decide+kernel];exact aW8 m w
 by_cases h38:t=⟨#[116,114,117,101]⟩
 ·subst h38;rw [show aa1 ⟨#[116,114,117,101]⟩ m=true by cases m<;>decide+kernel];exact aW9 m w
 by_cases h39:t=⟨#[116,114,121]⟩
 ·subst h39;rw [show aa1 ⟨#[116,114,121]⟩ m=true by cases m<;>decide+kernel];exact aX0 m w
 by_cases h40:t=⟨#[116,121,112,101,111,102]⟩
 ·subst h40;rw [show aa1 ⟨#[116,121,112,101,111,102]⟩ m=true by cases m<;>decide+kernel];exact aX1 m w
 by_cases h41:t=⟨#[118,97,114]⟩
 ·subst h41;rw [show aa1 ⟨#[118,97,114]⟩ m=true by cases m<;>decide+kernel];exact aX2 m w
 by_cases h42:t=⟨#[118,111,105,100]⟩
 ·subst h42;rw [show aa1 ⟨#[118,111,105,100]⟩ m=true by cases m<;>decide+kernel];exact aX3 m w
 by_cases h43:t=⟨#[119,104,105,108,101]⟩
 ·subst h43;rw [show aa1 ⟨#[119,104,105,108,101]⟩ m=true by cases m<;>decide+kernel];exact aX4 m w
 by_cases h44:t=⟨#[119,105,116,104]⟩
 ·subst h44;rw [show aa1 ⟨#[119,105,116,104]⟩ m=true by cases m<;>decide+kernel];exact aX5 m w
 by_cases h45:t=⟨#[121,105,101,108,100]⟩
 ·subst h45;rw [show aa1 ⟨#[121,105,101,108,100]⟩ m=true by cases m<;>decide+kernel];exact aX6 m w
 rw [show aa1 t m=false by unfold aa1 ao0 resW;simp [h0,h1,h2,h3,h4,h5,h6,h7,h8,h9,h10,h11,h12,h13,h14,h15,h16,h17,h18,h19,h20,h21,h22,h23,h24,h25,h26,h27,h28,h29,h30,h31,h32,h33,h34,h35,h36,h37,h38,h39,h40,h41,h42,h43,h44,h45]]
 exact aX8 t m w h0 h1 h2 h3 h4 h5 h6 h7 h8 h9 h10 h11 h12 h13 h14 h15 h16 h17 h18 h19 h20 h21 h22 h23 h24 h25 h26 h27 h28 h29 h30 h31 h32 h33 h34 h35 h36 h37 h38 h39 h40 h41 h42 h43 h44 h45
end
end Go.Proofs.YtnobjeelihkjmaaGreatDoor
