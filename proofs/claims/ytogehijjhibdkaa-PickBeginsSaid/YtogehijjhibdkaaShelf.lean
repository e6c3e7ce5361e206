/- No function off the shelf is reached here. -/
import Derived.Test.YtogehijjhibdkaaProg
